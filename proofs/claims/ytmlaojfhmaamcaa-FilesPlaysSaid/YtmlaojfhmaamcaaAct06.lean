/- One act of a script, on the program's disk and on the document's. -/
import Derived.Test.YtmlaojfhmaamcaaRefX06
import Derived.Test.YtmlaojfhmaamcaaNames06
namespace Go.Proofs.Ytmlaojfhmaamcaa
open Go.RowKit Go.Deep
set_option linter.unusedSimpArgs false
set_option linter.unusedVariables false

/-- An act, in memory, with what its slices hold. -/
structure OpA where
  kind : Int
  name : ByteArray
  s : ByteArray
  b : Sl
  at_ : Int
  names : Int
  keep : Sl
  torn : Int
  bs : List UInt8
  ks : List Bool
def OpA.cells (x : OpA) : List Value := [.int .i64 x.kind, .string x.name, .string x.s, .slice x.b.a x.b.n x.b.cap, .int .i64 x.at_, .int .i64 x.names, .slice x.keep.a x.keep.n x.keep.cap, .int .i64 x.torn]
theorem OpA.len (x : OpA) : x.cells.length = 8 := rfl
def boolc (x : Bool) : List Value := [.bool x]
/-- Its slices. -/
def OpA.In (x : OpA) (w : World) : Prop := SliceIs u8c 1 w x.b.val x.bs ∧ SliceIs boolc 1 w x.keep.val x.ks ∧ x.name.size ≤ 9223372036854775807 ∧ x.s.size ≤ 9223372036854775807
theorem OpA.In.below {x : OpA} {w w' : World} (h : x.In w) (hb : Below w.heap.size w w') : x.In w' := ⟨h.1.below hb, h.2.1.below hb, h.2.2⟩

/-- The kinds of blocks that a disk's calls write. -/
def DTag (t : Option TypeId) : Prop := t = none ∨ t = some 62 ∨ t = some 92 ∨ t = some 3 ∨ t = some 74 ∨ t = some 76
def RTag (t : Option TypeId) : Prop := t = some 35 ∨ t = some 83
theorem DiskIs.dtag {base : Nat} {w : World} {D : DSh} {A : DiskA} (h : DiskIs base w D A) {b : Nat} (hb : Foot D A b) : DTag (tagOf w b) := by
  rcases hb with rfl | rfl | rfl | hb | hb | ⟨f, hf, rfl | hb⟩
  · exact .inr (.inl h.tpb)
  · exact .inl (tag_map h.mfiles)
  · exact .inl (tag_map h.mbase)
  · exact .inr (.inr (.inl (tag_own h.ochg hb)))
  · exact .inr (.inr (.inr (.inl (tag_own h.osyn hb))))
  · exact .inr (.inr (.inr (.inr (.inl (h.file b hf).tag))))
  · exact .inr (.inr (.inr (.inr (.inr ((h.file f hf).row hb).1))))
theorem RTag.not {t : Option TypeId} (h : RTag t) (k : DTag t) : False := by
  rcases h with rfl | rfl <;> rcases k with k | k | k | k | k | k <;> simp at k
theorem RTag.notU {t : Option TypeId} (h : RTag t) : t ≠ some 5 := by
  rcases h with rfl | rfl <;> simp

/-- A call on the disk leaves the document's. -/
theorem RefIs.turned {base : Nat} {w w' : World} {D : DSh} {A : DiskA} {rb : Nat} {v : Value} {R : RefA} (h : DiskIs base w D A) (k : RefIs base w rb v R) (hx : Ext (Foot D A) w w') : RefIs base w' rb v R :=
  k.ext hx (fun b hb hf => RTag.not (by rcases (k.foot hb).2.2 with e | e; exact .inl e; exact .inr e) (h.dtag hf)) (fun b _ ht hf => (h.foot hf).2.2 ht)
/-- A call on the document's disk leaves the disk. -/
theorem DiskIs.rturned {base : Nat} {w w' : World} {D : DSh} {A : DiskA} {rb : Nat} {v : Value} {R : RefA} (h : DiskIs base w D A) (k : RefIs base w rb v R) (hx : Ext (RFoot rb v) w w') : DiskIs base w' D A :=
  h.ext hx (fun b hb hf => RTag.not (by rcases (k.foot hf).2.2 with e | e; exact .inl e; exact .inr e) (h.dtag hb)) (fun b _ ht hf => by rcases (k.foot hf).2.2 with e | e <;> (rw [ht] at e; simp at e))

/-- Both disks are turned, nothing else. -/
structure Both (base : Nat) (w : World) (D : DSh) (A : DiskA) (rb : Nat) (v : Value) (w' : World) (D' : DSh) (A' : DiskA) (v' : Value) (R' : RefA) : Prop where
  disk : DiskIs base w' D' A'
  ref : RefIs base w' rb v' R'
  pb : D'.pb = D.pb
  ext : Ext (fun b => Foot D A b ∨ RFoot rb v b) w w'
  foot : ∀ b, Foot D' A' b ∨ RFoot rb v' b → (Foot D A b ∨ RFoot rb v b) ∨ w.heap.size ≤ b
theorem Both.refl {base : Nat} {w : World} {D : DSh} {A : DiskA} {rb : Nat} {v : Value} {R : RefA} (h : DiskIs base w D A) (k : RefIs base w rb v R) : Both base w D A rb v w D A v R := ⟨h, k, rfl, Ext.refl _ _, fun _ hb => .inl hb⟩
theorem Both.below {base : Nat} {w w' : World} {D : DSh} {A : DiskA} {rb : Nat} {v : Value} {R : RefA} (h : DiskIs base w D A) (k : RefIs base w rb v R) (hb : Below w.heap.size w w') : Both base w D A rb v w' D A v R := ⟨h.below hb, k.below hb, rfl, Ext.of_below hb, fun _ hb => .inl hb⟩
theorem Both.trans {base : Nat} {w1 w2 w3 : World} {D1 D2 D3 : DSh} {A1 A2 A3 : DiskA} {rb : Nat} {v1 v2 v3 : Value} {R2 R3 : RefA} (h : Both base w1 D1 A1 rb v1 w2 D2 A2 v2 R2) (k : Both base w2 D2 A2 rb v2 w3 D3 A3 v3 R3) : Both base w1 D1 A1 rb v1 w3 D3 A3 v3 R3 where
  disk := k.disk
  ref := k.ref
  pb := k.pb.trans h.pb
  ext := h.ext.andThen k.ext (fun b hb hf => (h.foot b hf).resolve_right (by omega))
  foot b hb := by
    rcases k.foot b hb with e | e
    · exact h.foot b e
    · exact .inr (Nat.le_trans h.ext.size e)
theorem Both.frame {base B : Nat} {w0 w w' : World} {D D' : DSh} {A A' : DiskA} {rb : Nat} {v v' : Value} {R R' : RefA} (h : Both base w D A rb v w' D' A' v' R') (hd : DiskIs base w D A) (hr : RefIs base w rb v R) (hb : Below B w0 w) (hB : B ≤ base) (hs : B ≤ w.heap.size) : Below B w0 w' :=
  Ext.new hb h.ext (fun i hi' _ hp => by
    rcases hp with hp | hp
    · have := (hd.foot hp).1; omega
    · have := (hr.foot hp).1; omega) hs
/-- Two calls, one on each. -/
theorem Both.two {base : Nat} {w w2 w3 : World} {D D' : DSh} {A A' : DiskA} {rb : Nat} {v v' : Value} {R R' : RefA} (hd : DiskIs base w D A) (hr : RefIs base w rb v R) (h : Turned base w D A w2 D' A') (k : RTurned base w2 rb v w3 v' R') : Both base w D A rb v w3 D' A' v' R' where
  disk := h.is_.rturned (hr.turned hd h.ext) k.ext
  ref := k.is_
  pb := h.pb
  ext := (h.ext.mono (T := fun b => Foot D A b ∨ RFoot rb v b) (fun _ _ hb => .inl hb)).andThen k.ext (fun b _ hb => .inr hb)
  foot b hb := by
    rcases hb with hb | hb | hb
    · rcases h.foot b hb with e | e
      · exact .inl (.inl e)
      · exact .inr e
    · exact .inl (.inr (.inl hb))
    · rcases k.foot b hb with e | e
      · exact .inl (.inr e)
      · exact .inr (Nat.le_trans h.ext.size e)

/-- What an act does to the disk, and its answer. -/
def ActA (x : OpA) (A : DiskA) (c : Int) (A' : DiskA) : Prop :=
  if x.kind = 1 then c = makeCode A x.name ∧ ((c ≠ 0 ∧ A' = A) ∨ (c = 0 ∧ ∃ fb, fb ∉ A.ids ∧ A' = stepA ⟨0, x.name, ⟨#[]⟩, some fb⟩ (bornA fb A)))
  else if x.kind = 2 then (aget A.files x.name = none ∧ c = 61 ∧ A' = A) ∨ (∃ f, aget A.files x.name = some f ∧ 1048576 < sizeP (A.fs f) + x.bs.length ∧ c = 62 ∧ A' = A) ∨ (∃ f, aget A.files x.name = some f ∧ sizeP (A.fs f) + x.bs.length ≤ 1048576 ∧ c = 0 ∧ A' = appA f x.bs A)
  else if x.kind = 3 then (aget A.files x.name = none ∧ c = 61 ∧ A' = A) ∨ (∃ f, aget A.files x.name = some f ∧ c = 0 ∧ A' = syncA f A)
  else if x.kind = 4 then (rightN x.s = false ∧ c = 63 ∧ A' = A) ∨ (rightN x.s = true ∧ aget A.files x.name = none ∧ c = 61 ∧ A' = A) ∨ (∃ f, rightN x.s = true ∧ aget A.files x.name = some f ∧ c = 0 ∧ A' = stepA ⟨0, x.s, x.name, some f⟩ A)
  else if x.kind = 5 then (aget A.files x.name = none ∧ c = 61 ∧ A' = A) ∨ (∃ f, aget A.files x.name = some f ∧ c = 0 ∧ A' = stepA ⟨0, ⟨#[]⟩, x.name, none⟩ A)
  else if x.kind = 6 then c = 0 ∧ A' = synA A
  else c = 0 ∧ A' = A
/-- .. and to the document's. -/
def ractC (x : OpA) (R : RefA) : Int :=
  if x.kind = 1 then rmakeCode R x.name else if x.kind = 2 then rappendCode R x.name x.bs else if x.kind = 3 then rsyncCode R x.name else if x.kind = 4 then rrenameCode R x.name x.s else if x.kind = 5 then rremoveCode R x.name else 0
def ractR (x : OpA) (R : RefA) : RefA :=
  if x.kind = 1 then rmakeR R x.name else if x.kind = 2 then rappendR R x.name x.bs else if x.kind = 3 then rsyncR R x.name else if x.kind = 4 then rrenameR R x.name x.s else if x.kind = 5 then rremoveR R x.name else if x.kind = 6 then pushR ⟨6, 0, ⟨#[]⟩, []⟩ R else R

/-- What act answers, and leaves. -/
def ActPost (base : Nat) (w : World) (D : DSh) (A : DiskA) (rb : Nat) (v : Value) (R : RefA) (x : OpA) (e : Ending) (w' : World) : Prop :=
  ∃ c A' D' v', e = .returned (.tuple #[.int .i64 c, .int .i64 (ractC x R)]) ∧ ActA x A c A' ∧ Both base w D A rb v w' D' A' v' (ractR x R)

set_option maxRecDepth 20000 in
set_option maxHeartbeats 4000000 in
theorem act_any {base : Nat} {w : World} {D : DSh} {A : DiskA} {rb : Nat} {v : Value} {R : RefA} (h : DiskIs base w D A) (k : RefIs base w rb v R) (hbw : base ≤ w.heap.size) (x : OpA) {w0 : World} (hin : x.In w0) (hw0 : Below w0.heap.size w0 w) (hB0 : w0.heap.size ≤ base) (hlb : x.bs.length ≤ 1000) {N : Nat} (hs : A.Small N) (hr : R.Small N) (hN : N ≤ 100000) (hhl : ∀ f, (heldR R.L f).length ≤ 1048576) :
    Calls Try.prog 10 #[.agg #[.int .i64 x.kind, .string x.name, .string x.s, .slice x.b.a x.b.n x.b.cap, .int .i64 x.at_, .int .i64 x.names, .slice x.keep.a x.keep.n x.keep.cap, .int .i64 x.torn], .pointer (some ⟨D.pb, 0, none⟩), .pointer (some ⟨rb, 0, none⟩)] w fun e w' => ActPost base w D A rb v R x e w' := by
  have hb1 : Below w.heap.size w (w.alloc (.cells #[.int .i64 x.kind, .string x.name, .string x.s, .slice x.b.a x.b.n x.b.cap, .int .i64 x.at_, .int .i64 x.names, .slice x.keep.a x.keep.n x.keep.cap, .int .i64 x.torn] 28)) := (Below.refl _ _).alloc (Nat.le_refl _) _
  have hB1 := Both.below h k hb1
  have q0 : (w.alloc (.cells #[.int .i64 x.kind, .string x.name, .string x.s, .slice x.b.a x.b.n x.b.cap, .int .i64 x.at_, .int .i64 x.names, .slice x.keep.a x.keep.n x.keep.cap, .int .i64 x.torn] 28)).heap[w.heap.size]? = some (.cells #[.int .i64 x.kind, .string x.name, .string x.s, .slice x.b.a x.b.n x.b.cap, .int .i64 x.at_, .int .i64 x.names, .slice x.keep.a x.keep.n x.keep.cap, .int .i64 x.torn] 28 (0, 0)) := (MapKept.heap_alloc w _).1
  have z0 := Joins.cell_of_block q0 0
  have z1 := Joins.cell_of_block q0 1
  have z2 := Joins.cell_of_block q0 2
  have z3 := Joins.cell_of_block q0 3
  simp only [List.getElem?_toArray, List.getElem?_cons_succ, List.getElem?_cons_zero] at z0 z1 z2 z3
  have hnf : ¬ Foot D A w.heap.size := fun e => by have := (h.foot e).2.1; omega
  have hnr : ¬ RFoot rb v w.heap.size := fun e => by have := (k.foot e).2.1; omega
  have HW0 := Lib.hid (hw0.trans (hb1.mono hw0.size))
  have HIN := Lib.hid (hin.below HW0.out)
  have HV0 := Lib.hid hin
  have HB1 := Lib.hid hB1
  have HNF := Lib.hid hnf
  have HNR := Lib.hid hnr
  have HBW := Lib.hid (Nat.le_trans hbw hb1.size)
  have HS := Lib.hid hs
  have HR := Lib.hid hr
  have HHL := Lib.hid hhl
  clear h k hb1 hB1 q0 hin hs hr hhl hnf hnr hbw hw0
  obtain ⟨kind, name, s, ⟨ba, bn, bc⟩, at_, names, ⟨ka, kn, kc⟩, torn, bs, ks⟩ := x
  dsimp only at hlb HIN HV0 HB1 z0 z1 z2 z3 HBW ⊢
  go_enter Try.func10, Try.ntmps10
  go_upto_region 1 with fail
  generalize w.alloc (.cells #[.int .i64 kind, .string name, .string s, .slice ba bn bc, .int .i64 at_, .int .i64 names, .slice ka kn kc, .int .i64 torn] 28) = w1 at *
  obtain ⟨z, hz⟩ : ∃ z, w.heap.size = z := ⟨_, rfl⟩
  rw [hz] at z0 z1 z2 z3 HNF HNR ⊢
  clear hz
  obtain ⟨HV9, HV1, HI3, HI4⟩ : Hid (SliceIs u8c 1 w0 (.slice ba bn bc) bs) ∧ Hid (SliceIs u8c 1 w1 (.slice ba bn bc) bs) ∧ Hid (name.size ≤ 9223372036854775807) ∧ Hid (s.size ≤ 9223372036854775807) := ⟨Lib.hid HV0.out.1, Lib.hid HIN.out.1, Lib.hid HIN.out.2.2.1, Lib.hid HIN.out.2.2.2⟩
  clear HIN
  have HD1 := Lib.hid HB1.out.disk
  have HR1 := Lib.hid HB1.out.ref
  by_cases k1 : kind = 1
  · subst k1
    have TC : ∀ {w2 : World} {D2 : DSh} {A2 : DiskA}, Turned base w1.drew D A w2 D2 A2 → Turned base w1 D A w2 D2 A2 := fun t => ⟨t.is_, t.pb, ext_drew.1 t.ext, t.foot⟩
    have HBWd : Hid (base ≤ w1.drew.heap.size) := Lib.hid HBW.out
    have HINd : Hid (SliceIs u8c 1 w1.drew (.slice ba bn bc) bs) := Lib.hid HV1.out
    go_upto_region 3 with fail
    go_region_held3 (fun W => W.cell? ⟨z, 1, none⟩ = some (.string name) ∧ W.cell? ⟨z, 2, none⟩ = some (.string s) ∧ W.cell? ⟨z, 3, none⟩ = some (.slice ba bn bc)) (first | exact ⟨z1, z2, z3⟩ | exact ⟨Ext.keep HX3.out (Ext.keep HX2.out z1 HNF.out) HNR.out, Ext.keep HX3.out (Ext.keep HX2.out z2 HNF.out) HNR.out, Ext.keep HX3.out (Ext.keep HX2.out z3 HNF.out) HNR.out⟩ | exact ⟨Ext.keep HX2.out z1 HNF.out, Ext.keep HX2.out z2 HNF.out, Ext.keep HX2.out z3 HNF.out⟩) (first | (go_at_call 21; ((with_reducible refine (make_any HD1.out.drew HBWd.out name HS.out.now0 (by have := HS.out.now; omega) (by have := HS.out.chg; omega)).mono ?_); intro e w2 hq; obtain ⟨rfl, hq⟩ := hq; obtain ⟨c2, A2, D2, hc, hA, hT⟩ : ∃ c2 A2 D2, makeCode A name = c2 ∧ ActA ⟨1, name, s, ⟨ba, bn, bc⟩, at_, names, ⟨ka, kn, kc⟩, torn, bs, ks⟩ A c2 A2 ∧ Turned base w1 D A w2 D2 A2 := (by rcases hq with ⟨h1, h2⟩ | ⟨h1, fb, D2, h2, h3⟩; exact ⟨_, _, _, rfl, (by unfold ActA; rw [if_pos rfl]; exact ⟨rfl, .inl ⟨h1, rfl⟩⟩), TC h2⟩; exact ⟨_, _, _, rfl, (by unfold ActA; rw [if_pos rfl]; exact ⟨rfl, .inr ⟨h1, fb, h2, rfl⟩⟩), TC h3⟩); rw [hc]; have HA := Lib.hid hA; have HT := Lib.hid hT; have HX2 := Lib.hid hT.ext; have hs2 := Nat.le_trans HBW.out hT.ext.size; have HR2 := Lib.hid (RefIs.turned HD1.out HR1.out hT.ext); clear hA hT hq)) | (go_at_call 23; ((with_reducible refine (rmake_any HR2.out hs2 HR.out hN name HI3.out).mono ?_); rintro e w3 ⟨rfl, v3, hq3⟩; have HX3 := Lib.hid hq3.ext; have HQ3 := Lib.hid hq3; clear hq3)))
    all_goals
      go_wp2
      refine bodyPost_ret (results_tmp2 rfl _ _ _) rfl ?_
      exact ⟨_, _, _, _, rfl, HA.out, HB1.out.trans (Both.two HD1.out HR1.out HT.out HQ3.out)⟩
  by_cases k2 : kind = 2
  · subst k2
    have TC : ∀ {w2 : World} {D2 : DSh} {A2 : DiskA}, Turned base w1.drew D A w2 D2 A2 → Turned base w1 D A w2 D2 A2 := fun t => ⟨t.is_, t.pb, ext_drew.1 t.ext, t.foot⟩
    have HBWd : Hid (base ≤ w1.drew.heap.size) := Lib.hid HBW.out
    have HINd : Hid (SliceIs u8c 1 w1.drew (.slice ba bn bc) bs) := Lib.hid HV1.out
    go_upto_region 5 with fail
    go_region_held3 (fun W => W.cell? ⟨z, 1, none⟩ = some (.string name) ∧ W.cell? ⟨z, 2, none⟩ = some (.string s) ∧ W.cell? ⟨z, 3, none⟩ = some (.slice ba bn bc)) (first | exact ⟨z1, z2, z3⟩ | exact ⟨Ext.keep HX3.out (Ext.keep HX2.out z1 HNF.out) HNR.out, Ext.keep HX3.out (Ext.keep HX2.out z2 HNF.out) HNR.out, Ext.keep HX3.out (Ext.keep HX2.out z3 HNF.out) HNR.out⟩ | exact ⟨Ext.keep HX2.out z1 HNF.out, Ext.keep HX2.out z2 HNF.out, Ext.keep HX2.out z3 HNF.out⟩) (first | (go_at_call 22; ((with_reducible refine (append_any HD1.out.drew HBWd.out name _ bs HINd.out (by omega) HS.out (by omega)).mono ?_); intro e w2 hq; obtain ⟨c2, A2, D2, rfl, hA, hT⟩ : ∃ c2 A2 D2, e = .returned (.int .i64 c2) ∧ ActA ⟨2, name, s, ⟨ba, bn, bc⟩, at_, names, ⟨ka, kn, kc⟩, torn, bs, ks⟩ A c2 A2 ∧ Turned base w1 D A w2 D2 A2 := (by rcases hq with ⟨h1, h2, h3⟩ | ⟨f, h0, h1, h2, h3⟩ | ⟨f, D2, h0, h1, h2, h3⟩; exact ⟨_, _, _, h2, (by unfold ActA; rw [if_neg (by simp), if_pos rfl]; exact .inl ⟨h1, rfl, rfl⟩), TC h3⟩; exact ⟨_, _, _, h2, (by unfold ActA; rw [if_neg (by simp), if_pos rfl]; exact .inr (.inl ⟨f, h0, h1, rfl, rfl⟩)), TC h3⟩; exact ⟨_, _, _, h2, (by unfold ActA; rw [if_neg (by simp), if_pos rfl]; exact .inr (.inr ⟨f, h0, h1, rfl, rfl⟩)), TC h3⟩); have HA := Lib.hid hA; have HT := Lib.hid hT; have HX2 := Lib.hid hT.ext; have hs2 := Nat.le_trans HBW.out hT.ext.size; have HV2 : Hid (SliceIs u8c 1 w2 (.slice ba bn bc) bs) := Lib.hid (HV9.out.below (hT.frame HD1.out HW0.out hB0 HW0.out.size)); have HR2 := Lib.hid (RefIs.turned HD1.out HR1.out hT.ext); clear hA hT hq)) | (go_at_call 24; ((with_reducible refine (rappend_any HR2.out hs2 HR.out hN name _ bs HV2.out (by omega) HHL.out).mono ?_); rintro e w3 ⟨rfl, v3, hq3⟩; have HX3 := Lib.hid hq3.ext; have HQ3 := Lib.hid hq3; clear hq3)))
    all_goals
      go_wp2
      refine bodyPost_ret (results_tmp2 rfl _ _ _) rfl ?_
      exact ⟨_, _, _, _, rfl, HA.out, HB1.out.trans (Both.two HD1.out HR1.out HT.out HQ3.out)⟩
  by_cases k3 : kind = 3
  · subst k3
    have TC : ∀ {w2 : World} {D2 : DSh} {A2 : DiskA}, Turned base w1.drew D A w2 D2 A2 → Turned base w1 D A w2 D2 A2 := fun t => ⟨t.is_, t.pb, ext_drew.1 t.ext, t.foot⟩
    have HBWd : Hid (base ≤ w1.drew.heap.size) := Lib.hid HBW.out
    have HINd : Hid (SliceIs u8c 1 w1.drew (.slice ba bn bc) bs) := Lib.hid HV1.out
    go_upto_region 7 with fail
    go_region_held3 (fun W => W.cell? ⟨z, 1, none⟩ = some (.string name) ∧ W.cell? ⟨z, 2, none⟩ = some (.string s) ∧ W.cell? ⟨z, 3, none⟩ = some (.slice ba bn bc)) (first | exact ⟨z1, z2, z3⟩ | exact ⟨Ext.keep HX3.out (Ext.keep HX2.out z1 HNF.out) HNR.out, Ext.keep HX3.out (Ext.keep HX2.out z2 HNF.out) HNR.out, Ext.keep HX3.out (Ext.keep HX2.out z3 HNF.out) HNR.out⟩ | exact ⟨Ext.keep HX2.out z1 HNF.out, Ext.keep HX2.out z2 HNF.out, Ext.keep HX2.out z3 HNF.out⟩) (first | (go_at_call 15; ((with_reducible refine (sync_any HD1.out.drew name HS.out (by omega)).mono ?_); intro e w2 hq; obtain ⟨c2, A2, D2, rfl, hA, hT⟩ : ∃ c2 A2 D2, e = .returned (.int .i64 c2) ∧ ActA ⟨3, name, s, ⟨ba, bn, bc⟩, at_, names, ⟨ka, kn, kc⟩, torn, bs, ks⟩ A c2 A2 ∧ Turned base w1 D A w2 D2 A2 := (by rcases hq with ⟨h1, h2, h3⟩ | ⟨f, h1, h2, h3⟩; exact ⟨_, _, _, h2, (by unfold ActA; rw [if_neg (by simp), if_neg (by simp), if_pos rfl]; exact .inl ⟨h1, rfl, rfl⟩), TC h3⟩; exact ⟨_, _, _, h2, (by unfold ActA; rw [if_neg (by simp), if_neg (by simp), if_pos rfl]; exact .inr ⟨f, h1, rfl, rfl⟩), TC h3⟩); have HA := Lib.hid hA; have HT := Lib.hid hT; have HX2 := Lib.hid hT.ext; have hs2 := Nat.le_trans HBW.out hT.ext.size; have HR2 := Lib.hid (RefIs.turned HD1.out HR1.out hT.ext); clear hA hT hq)) | (go_at_call 25; ((with_reducible refine (rsync_any HR2.out hs2 HR.out hN name).mono ?_); rintro e w3 ⟨rfl, v3, hq3⟩; have HX3 := Lib.hid hq3.ext; have HQ3 := Lib.hid hq3; clear hq3)))
    all_goals
      go_wp2
      refine bodyPost_ret (results_tmp2 rfl _ _ _) rfl ?_
      exact ⟨_, _, _, _, rfl, HA.out, HB1.out.trans (Both.two HD1.out HR1.out HT.out HQ3.out)⟩
  by_cases k4 : kind = 4
  · subst k4
    have TC : ∀ {w2 : World} {D2 : DSh} {A2 : DiskA}, Turned base w1.drew D A w2 D2 A2 → Turned base w1 D A w2 D2 A2 := fun t => ⟨t.is_, t.pb, ext_drew.1 t.ext, t.foot⟩
    have HBWd : Hid (base ≤ w1.drew.heap.size) := Lib.hid HBW.out
    have HINd : Hid (SliceIs u8c 1 w1.drew (.slice ba bn bc) bs) := Lib.hid HV1.out
    go_upto_region 9 with fail
    go_region_held3 (fun W => W.cell? ⟨z, 1, none⟩ = some (.string name) ∧ W.cell? ⟨z, 2, none⟩ = some (.string s) ∧ W.cell? ⟨z, 3, none⟩ = some (.slice ba bn bc)) (first | exact ⟨z1, z2, z3⟩ | exact ⟨Ext.keep HX3.out (Ext.keep HX2.out z1 HNF.out) HNR.out, Ext.keep HX3.out (Ext.keep HX2.out z2 HNF.out) HNR.out, Ext.keep HX3.out (Ext.keep HX2.out z3 HNF.out) HNR.out⟩ | exact ⟨Ext.keep HX2.out z1 HNF.out, Ext.keep HX2.out z2 HNF.out, Ext.keep HX2.out z3 HNF.out⟩) (first | (go_at_call 26; ((with_reducible refine (rename_any HD1.out.drew HBWd.out name s HS.out.now0 (by have := HS.out.now; omega) (by have := HS.out.chg; omega)).mono ?_); intro e w2 hq; obtain ⟨c2, A2, D2, rfl, hA, hT⟩ : ∃ c2 A2 D2, e = .returned (.int .i64 c2) ∧ ActA ⟨4, name, s, ⟨ba, bn, bc⟩, at_, names, ⟨ka, kn, kc⟩, torn, bs, ks⟩ A c2 A2 ∧ Turned base w1 D A w2 D2 A2 := (by rcases hq with ⟨h1, h2, h3⟩ | ⟨h0, h1, h2, h3⟩ | ⟨f, D2, h0, h1, h2, h3⟩; exact ⟨_, _, _, h2, (by unfold ActA; rw [if_neg (by simp), if_neg (by simp), if_neg (by simp), if_pos rfl]; exact .inl ⟨h1, rfl, rfl⟩), TC h3⟩; exact ⟨_, _, _, h2, (by unfold ActA; rw [if_neg (by simp), if_neg (by simp), if_neg (by simp), if_pos rfl]; exact .inr (.inl ⟨h0, h1, rfl, rfl⟩)), TC h3⟩; exact ⟨_, _, _, h2, (by unfold ActA; rw [if_neg (by simp), if_neg (by simp), if_neg (by simp), if_pos rfl]; exact .inr (.inr ⟨f, h0, h1, rfl, rfl⟩)), TC h3⟩); have HA := Lib.hid hA; have HT := Lib.hid hT; have HX2 := Lib.hid hT.ext; have hs2 := Nat.le_trans HBW.out hT.ext.size; have HR2 := Lib.hid (RefIs.turned HD1.out HR1.out hT.ext); clear hA hT hq)) | (go_at_call 27; ((with_reducible refine (rrename_any HR2.out hs2 HR.out hN name s HI4.out).mono ?_); rintro e w3 ⟨rfl, v3, hq3⟩; have HX3 := Lib.hid hq3.ext; have HQ3 := Lib.hid hq3; clear hq3)))
    all_goals
      go_wp2
      refine bodyPost_ret (results_tmp2 rfl _ _ _) rfl ?_
      exact ⟨_, _, _, _, rfl, HA.out, HB1.out.trans (Both.two HD1.out HR1.out HT.out HQ3.out)⟩
  by_cases k5 : kind = 5
  · subst k5
    have TC : ∀ {w2 : World} {D2 : DSh} {A2 : DiskA}, Turned base w1.drew D A w2 D2 A2 → Turned base w1 D A w2 D2 A2 := fun t => ⟨t.is_, t.pb, ext_drew.1 t.ext, t.foot⟩
    have HBWd : Hid (base ≤ w1.drew.heap.size) := Lib.hid HBW.out
    have HINd : Hid (SliceIs u8c 1 w1.drew (.slice ba bn bc) bs) := Lib.hid HV1.out
    go_upto_region 11 with fail
    go_region_held3 (fun W => W.cell? ⟨z, 1, none⟩ = some (.string name) ∧ W.cell? ⟨z, 2, none⟩ = some (.string s) ∧ W.cell? ⟨z, 3, none⟩ = some (.slice ba bn bc)) (first | exact ⟨z1, z2, z3⟩ | exact ⟨Ext.keep HX3.out (Ext.keep HX2.out z1 HNF.out) HNR.out, Ext.keep HX3.out (Ext.keep HX2.out z2 HNF.out) HNR.out, Ext.keep HX3.out (Ext.keep HX2.out z3 HNF.out) HNR.out⟩ | exact ⟨Ext.keep HX2.out z1 HNF.out, Ext.keep HX2.out z2 HNF.out, Ext.keep HX2.out z3 HNF.out⟩) (first | (go_at_call 28; ((with_reducible refine (remove_any HD1.out.drew HBWd.out name HS.out.now0 (by have := HS.out.now; omega) (by have := HS.out.chg; omega)).mono ?_); intro e w2 hq; obtain ⟨c2, A2, D2, rfl, hA, hT⟩ : ∃ c2 A2 D2, e = .returned (.int .i64 c2) ∧ ActA ⟨5, name, s, ⟨ba, bn, bc⟩, at_, names, ⟨ka, kn, kc⟩, torn, bs, ks⟩ A c2 A2 ∧ Turned base w1 D A w2 D2 A2 := (by rcases hq with ⟨h1, h2, h3⟩ | ⟨f, D2, h1, h2, h3⟩; exact ⟨_, _, _, h2, (by unfold ActA; rw [if_neg (by simp), if_neg (by simp), if_neg (by simp), if_neg (by simp), if_pos rfl]; exact .inl ⟨h1, rfl, rfl⟩), TC h3⟩; exact ⟨_, _, _, h2, (by unfold ActA; rw [if_neg (by simp), if_neg (by simp), if_neg (by simp), if_neg (by simp), if_pos rfl]; exact .inr ⟨f, h1, rfl, rfl⟩), TC h3⟩); have HA := Lib.hid hA; have HT := Lib.hid hT; have HX2 := Lib.hid hT.ext; have hs2 := Nat.le_trans HBW.out hT.ext.size; have HR2 := Lib.hid (RefIs.turned HD1.out HR1.out hT.ext); clear hA hT hq)) | (go_at_call 29; ((with_reducible refine (rremove_any HR2.out hs2 HR.out hN name).mono ?_); rintro e w3 ⟨rfl, v3, hq3⟩; have HX3 := Lib.hid hq3.ext; have HQ3 := Lib.hid hq3; clear hq3)))
    all_goals
      go_wp2
      refine bodyPost_ret (results_tmp2 rfl _ _ _) rfl ?_
      exact ⟨_, _, _, _, rfl, HA.out, HB1.out.trans (Both.two HD1.out HR1.out HT.out HQ3.out)⟩
  by_cases k6 : kind = 6
  · subst k6
    go_wp2_with fail
    refine (synNames_any HD1.out HBW.out HS.out.now0 (by have := HS.out.now; omega) (by have := HS.out.syn; omega)).mono ?_
    rintro e w2 ⟨rfl, D2, hT⟩
    have HT := Lib.hid hT
    have hs2 := Nat.le_trans HBW.out hT.ext.size
    have HR2 := Lib.hid (RefIs.turned HD1.out HR1.out hT.ext)
    clear hT
    go_wp2_with fail
    refine (rsynNames_any HR2.out hs2 HR.out hN).mono ?_
    rintro e w3 ⟨v3, rfl, hq3⟩
    have HQ3 := Lib.hid hq3
    clear hq3
    go_wp2
    refine bodyPost_ret (results_tmp2 rfl _ _ _) rfl ?_
    exact ⟨_, _, _, _, rfl, ⟨rfl, rfl⟩, HB1.out.trans (Both.two HD1.out HR1.out HT.out HQ3.out)⟩
  · have e1 : (kind == 1) = false := by simpa using k1
    have e2 : (kind == 2) = false := by simpa using k2
    have e3 : (kind == 3) = false := by simpa using k3
    have e4 : (kind == 4) = false := by simpa using k4
    have e5 : (kind == 5) = false := by simpa using k5
    have e6 : (kind == 6) = false := by simpa using k6
    go_wp2
    all_goals first
      | (exfalso; omega)
      | (refine bodyPost_ret (results_tmp2 rfl _ _ _) rfl ?_; exact ⟨0, A, _, _, by simp [ractC, k1, k2, k3, k4, k5], by simp [ActA, k1, k2, k3, k4, k5, k6], by simpa [ractR, k1, k2, k3, k4, k5, k6] using HB1.out⟩)

end Go.Proofs.Ytmlaojfhmaamcaa
