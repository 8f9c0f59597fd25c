/- OplogNil, part 11 of what the proof leans on (made short by a program). -/
import Derived.Test.YtgmdimbiipemhaaGreatDoorOnY9
import Derived.Test.YtgmdimbiipemhaaGreatDoorOnY10
import Derived.Test.YtgmdimbiipemhaaGreatDoorOnY8
import Derived.Test.YtgmdimbiipemhaaGreatDoorOnY4
import Derived.Lib.AppendZerosOnto
import Derived.Test.YtgmdimbiipemhaaGreatDoorOnY1
import Derived.Maps.RangeRun
import Derived.Test.YtgmdimbiipemhaaGreatDoorOnY5
import Derived.Test.YtgmdimbiipemhaaGreatDoorRows
import Derived.ProofKit
import Derived.LaidMore
import Derived.OpenShut
import Derived.Stop.Joined
import Derived.Lay
import Derived.LaidHandle
import Derived.LaidLaws
set_option linter.unusedSimpArgs false
set_option linter.unusedVariables false
set_option linter.unusedSectionVars false
namespace Go.Proofs.YtgmdimbiipemhaaGreatDoor
open Go.RowKit Go.Deep
noncomputable def logT (b : List UInt8) : Option (List OpD × Nat) :=
  match takeF b with
  | some (k, body) => if k = 66 then (match decB body with | some l => if l = [] then none else some (l, 11 + body.length) | none => none) else none
  | none => none
theorem logT_none {b : List UInt8} (h : takeF b = none) : logT b = none := by unfold logT; rw [h]
theorem logT_kind {b body : List UInt8} {k : UInt8} (h : takeF b = some (k, body)) (hk : k ≠ 66) : logT b = none := by
  unfold logT
  rw [h]
  dsimp only
  rw [if_neg hk]
theorem logT_no {b body : List UInt8} (h : takeF b = some (66, body)) (hd : decB body = none) : logT b = none := by
  unfold logT
  rw [h]
  dsimp only
  rw [if_pos rfl, hd]
theorem logT_nil {b body : List UInt8} (h : takeF b = some (66, body)) (hd : decB body = some []) : logT b = none := by
  unfold logT
  rw [h]
  dsimp only
  rw [if_pos rfl, hd]
  simp
theorem logT_some {b body : List UInt8} {l : List OpD} (h : takeF b = some (66, body)) (hd : decB body = some l) (hl : l ≠ []) : logT b = some (l, 11 + body.length) := by
  unfold logT
  rw [h]
  dsimp only
  rw [if_pos rfl, hd]
  simp only [if_neg hl]
def LTPost (w : World) (b : List UInt8) (e : Ending) (w' : World) : Prop :=
  (∃ l n x, logT b = some (l, n) ∧ e = .returned (.tuple #[x, .int .i64 (n : Int)]) ∧ Own OpD.cells 26 68 w.heap.size w' x l ∧ Below w.heap.size w w') ∨
  (logT b = none ∧ e = .returned (.tuple #[.slice none 0 0, .int .i64 0]) ∧ Below w.heap.size w w')
set_option maxRecDepth 20000 in
set_option maxHeartbeats 2000000 in
theorem ltake_any (v : Value) (b : List UInt8) (w : World) (h : SliceIs u8c 1 w v b) (hg : ErrTy w) : Calls Tryz.prog 122 #[v] w fun e w' => LTPost w b e w' := by
  obtain ⟨a, cap, rfl, hcap, hmax, -⟩ := id h
  unfold maxLen at hmax
  have HH := Lib.hid (And.intro h hg)
  clear h hg
  go_enter Tryz.func122, Tryz.ntmps122
  go_wp2_with fail
  refine (taken_any _ b _ HH.out.1).mono ?_
  rintro e w1 hp
  unfold TakeFPost at hp
  rcases hp with ⟨k, body, v1, ht, rfl, hown, hb⟩ | ⟨ht, ⟨c, hc, rfl⟩, hb⟩
  · have HT := Lib.hid (And.intro ht (And.intro hown hb))
    clear ht hown hb
    by_cases hk : k = 66
    · subst hk
      obtain ⟨xa, xc, hv1, hxc, hxm, -⟩ := HT.out.2.1.slice u8c_len
      unfold maxLen at hxm
      have HS : Hid (SliceIs u8c 1 w1 v1 body) := Lib.hid (HT.out.2.1.slice u8c_len)
      subst hv1
      go_wp2_with fail
      refine (decode_any _ body _ HS.out (HH.out.2.below HT.out.2.2)).mono ?_
      rintro e w2 hd
      unfold DecPost at hd
      rcases hd with ⟨l, x, hdl, rfl, hown2, hb2⟩ | ⟨hdn, rfl, hb2⟩
      · obtain ⟨ya, yc, rfl, hyc, hym, -⟩ := hown2.slice OpD.len
        unfold maxLen at hym
        have HD := Lib.hid (And.intro hdl (And.intro (hown2.mono HT.out.2.2.size) (HT.out.2.2.trans (hb2.mono HT.out.2.2.size))))
        clear hdl hown2 hb2
        cases l with
        | nil =>
          go_wp2_with fail
          go_ret2
          exact .inr ⟨logT_nil HT.out.1 HD.out.1, rfl, HD.out.2.2⟩
        | cons x0 l0 =>
          have hl0 : ¬ (((x0 :: l0).length : Nat) : Int) = 0 := by simp; omega
          obtain ⟨q, hq⟩ : ∃ q, (x0 :: l0).length = q := ⟨_, rfl⟩
          have HQ := Lib.hid hq
          rw [hq] at hl0 hyc ⊢
          clear hq
          go_wp2_with fail
          go_ret2
          exact .inl ⟨x0 :: l0, 11 + body.length, _, logT_some HT.out.1 HD.out.1 (by simp), rfl, by rw [← HQ.out]; exact HD.out.2.1, HD.out.2.2⟩
      · have HD := Lib.hid (And.intro hdn (HT.out.2.2.trans (hb2.mono HT.out.2.2.size)))
        clear hdn hb2
        go_wp2_with fail
        go_ret2
        exact .inr ⟨logT_no HT.out.1 HD.out.1, rfl, HD.out.2⟩
    · have hk2 : ¬ (k.toNat : Int) = 66 := fun e => hk (by
        have : k.toNat = (66 : UInt8).toNat := by show k.toNat = 66; omega
        exact UInt8.toNat_inj.1 this)
      go_wp2_with fail
      go_ret2
      exact .inr ⟨logT_kind HT.out.1 hk, rfl, HT.out.2.2⟩
  · have HT := Lib.hid (And.intro ht hb)
    clear ht hb
    go_wp2_with fail
    go_ret2
    exact .inr ⟨logT_none HT.out.1, rfl, HT.out.2⟩
def frmL (l : List OpD) : List UInt8 := wrapB 66 (encB l)
def LWPost (w : World) (l : List OpD) (e : Ending) (w' : World) : Prop :=
  (l ≠ [] ∧ l.length ≤ 200 ∧ (∀ x ∈ l, x.right = true) ∧ (encB l).length ≤ 65536 ∧ ∃ v, e = .returned (.tuple #[v, .nilIface]) ∧ Own u8c 1 5 w.heap.size w' v (frmL l) ∧ Below w.heap.size w w') ∨
  (∃ s n, (n = 1 ∧ (l = [] ∨ 200 < l.length) ∨ n = 71 ∧ l ≠ [] ∧ l.length ≤ 200 ∧ (∃ x ∈ l, x.right = false) ∨ n = 1 ∧ 65536 < (encB l).length) ∧ e = .returned (.tuple #[.slice none 0 0, atErrO09 s n]) ∧ Below w.heap.size w w')
set_option maxRecDepth 20000 in
set_option maxHeartbeats 2000000 in
theorem wrapped_any (v : Value) (l : List OpD) (w : World) (h : SliceIs OpD.cells 26 w v l) (hwf : ∀ x ∈ l, x.wf) (hn : l.length ≤ 1000000) : Calls Tryz.prog 81 #[v] w fun e w' => LWPost w l e w' := by
  obtain ⟨a, cap, rfl, hcap, hmax, -⟩ := id h
  unfold maxLen at hmax
  have HH := Lib.hid (And.intro h hwf)
  clear h hwf
  by_cases h0 : l = []
  · subst h0
    go_enter Tryz.func81, Tryz.ntmps81
    go_wp2_with fail
    refine (check_any _ 1 _).mono ?_
    rintro e w1 ⟨rfl, rfl⟩
    rw [errO_ne _ (by decide)]
    unfold atErrO09
    go_wp2_with fail
    go_ret2
    exact .inr ⟨_, 1, .inl ⟨rfl, .inl rfl⟩, rfl, Below.refl _ _⟩
  · have hl0 : ¬ ((l.length : Nat) : Int) = 0 := by
      have := List.length_pos_iff.2 h0
      omega
    obtain ⟨q, hq⟩ : ∃ q, l.length = q := ⟨_, rfl⟩
    have HQ := Lib.hid hq
    have HS : Hid (SliceIs OpD.cells 26 w (.slice a q cap) l) := Lib.hid (by rw [← hq]; exact HH.out.1)
    rw [hq] at hl0 hcap ⊢
    clear hq
    go_enter Tryz.func81, Tryz.ntmps81
    go_wp2_with fail
    refine (encode_any _ l _ HS.out HH.out.2 (by omega)).mono ?_
    rintro e w1 hp
    unfold EncPost at hp
    rcases hp with ⟨h1, h2, v1, rfl, hown, hb⟩ | ⟨h1, rfl, hb⟩ | ⟨h1, h2, rfl, hb⟩
    · obtain ⟨xa, xc, hv1, hxc, hxm, -⟩ := hown.slice u8c_len
      have HE := Lib.hid (And.intro h1 (And.intro h2 (And.intro (hown.slice u8c_len) hb)))
      subst hv1
      clear h1 h2 hown hb
      go_wp2_with fail
      refine (check_any _ 0 _).mono ?_
      rintro e w2 ⟨rfl, rfl⟩
      rw [errO_zero]
      go_wp2_with fail
      refine (wrap_any 66 _ (encB l) _ HE.out.2.2.1).mono ?_
      rintro e w3 hp
      unfold WrapPost at hp
      rcases hp with ⟨h3, v3, rfl, hown3, hb3⟩ | ⟨h3, rfl, hb3⟩
      · have HW := Lib.hid (And.intro h3 (And.intro (hown3.mono HE.out.2.2.2.size) (HE.out.2.2.2.trans (hb3.mono HE.out.2.2.2.size))))
        clear h3 hown3 hb3
        go_wp2_with fail
        refine (check_any _ 0 _).mono ?_
        rintro e w4 ⟨rfl, rfl⟩
        rw [errO_zero]
        go_wp2_with fail
        go_ret2
        exact .inl ⟨h0, HE.out.1, HE.out.2.1, HW.out.1, v3, rfl, HW.out.2.1, HW.out.2.2⟩
      · have HW := Lib.hid (And.intro h3 (HE.out.2.2.2.trans (hb3.mono HE.out.2.2.2.size)))
        clear h3 hb3
        go_wp2_with fail
        refine (check_any _ 1 _).mono ?_
        rintro e w4 ⟨rfl, rfl⟩
        rw [errO_ne _ (by decide)]
        unfold atErrO09
        go_wp2_with fail
        go_ret2
        exact .inr ⟨_, 1, .inr (.inr ⟨rfl, HW.out.1⟩), rfl, HW.out.2⟩
    · have HE := Lib.hid (And.intro h1 hb)
      clear h1 hb
      go_wp2_with fail
      refine (check_any _ 1 _).mono ?_
      rintro e w2 ⟨rfl, rfl⟩
      rw [errO_ne _ (by decide)]
      unfold atErrO09
      go_wp2_with fail
      go_ret2
      exact .inr ⟨_, 1, .inl ⟨rfl, .inr HE.out.1⟩, rfl, HE.out.2⟩
    · have HE := Lib.hid (And.intro h1 (And.intro h2 hb))
      clear h1 h2 hb
      go_wp2_with fail
      refine (check_any _ 71 _).mono ?_
      rintro e w2 ⟨rfl, rfl⟩
      rw [errO_ne _ (by decide)]
      unfold atErrO09
      go_wp2_with fail
      go_ret2
      exact .inr ⟨_, 71, .inr (.inl ⟨rfl, h0, HE.out.1, HE.out.2.1⟩), rfl, HE.out.2.2⟩
structure OpA where
  kind : Int
  name : ByteArray
  s : ByteArray
  b : Sl
  at_ : Int
  names : Int
  keep : Sl
  torn : Int
  bs : List UInt8
  ks : List Bool
def DTag (t : Option TypeId) : Prop := t = none ∨ t = some 118 ∨ t = some 126 ∨ t = some 3 ∨ t = some 124 ∨ t = some 131
theorem DiskIs.dtag {base : Nat} {w : World} {D : DSh} {A : DiskA} (h : DiskIs base w D A) {b : Nat} (hb : Foot D A b) : DTag (tagOf w b) := by
  rcases hb with rfl | rfl | rfl | hb | hb | ⟨f, hf, rfl | hb⟩
  · exact .inr (.inl h.tpb)
  · exact .inl (tag_map h.mfiles)
  · exact .inl (tag_map h.mbase)
  · exact .inr (.inr (.inl (tag_own h.ochg hb)))
  · exact .inr (.inr (.inr (.inl (tag_own h.osyn hb))))
  · exact .inr (.inr (.inr (.inr (.inl (h.file b hf).tag))))
  · exact .inr (.inr (.inr (.inr (.inr ((h.file f hf).row hb).1))))
def ActA (x : OpA) (A : DiskA) (c : Int) (A' : DiskA) : Prop :=
  if x.kind = 1 then c = makeCode A x.name ∧ ((c ≠ 0 ∧ A' = A) ∨ (c = 0 ∧ ∃ fb, fb ∉ A.ids ∧ A' = stepA ⟨0, x.name, ⟨#[]⟩, some fb⟩ (bornA fb A)))
  else if x.kind = 2 then (aget A.files x.name = none ∧ c = 61 ∧ A' = A) ∨ (∃ f, aget A.files x.name = some f ∧ 1048576 < sizeP (A.fs f) + x.bs.length ∧ c = 62 ∧ A' = A) ∨ (∃ f, aget A.files x.name = some f ∧ sizeP (A.fs f) + x.bs.length ≤ 1048576 ∧ c = 0 ∧ A' = appA f x.bs A)
  else if x.kind = 3 then (aget A.files x.name = none ∧ c = 61 ∧ A' = A) ∨ (∃ f, aget A.files x.name = some f ∧ c = 0 ∧ A' = syncA f A)
  else if x.kind = 4 then (rightN x.s = false ∧ c = 63 ∧ A' = A) ∨ (rightN x.s = true ∧ aget A.files x.name = none ∧ c = 61 ∧ A' = A) ∨ (∃ f, rightN x.s = true ∧ aget A.files x.name = some f ∧ c = 0 ∧ A' = stepA ⟨0, x.s, x.name, some f⟩ A)
  else if x.kind = 5 then (aget A.files x.name = none ∧ c = 61 ∧ A' = A) ∨ (∃ f, aget A.files x.name = some f ∧ c = 0 ∧ A' = stepA ⟨0, ⟨#[]⟩, x.name, none⟩ A)
  else if x.kind = 6 then c = 0 ∧ A' = synA A
  else c = 0 ∧ A' = A
theorem applyC_len (c : Chg) (l : List (ByteArray × Nat)) : (applyC c l).length ≤ l.length + 1 := by
  have h1 := (adel_sub l c.old).length_le
  unfold applyC
  cases c.f with
  | none => dsimp only; omega
  | some f => dsimp only; have := aset_length_le (adel l c.old) c.name f; omega
theorem applyC_nodup (c : Chg) (l : List (ByteArray × Nat)) (h : (l.map (·.1)).Nodup) : ((applyC c l).map (·.1)).Nodup := by
  unfold applyC
  cases c.f with
  | none => exact adel_nodup l c.old h
  | some f => exact aset_nodup _ _ _ (adel_nodup l c.old h)
theorem aget_applyC (c : Chg) (l : List (ByteArray × Nat)) (h : (l.map (·.1)).Nodup) (n : ByteArray) :
    aget (applyC c l) n = match c.f with | some f => if n = c.name then some f else if n = c.old then none else aget l n | none => if n = c.old then none else aget l n := by
  have hd : aget (adel l c.old) n = if n = c.old then none else aget l n := by
    by_cases e : n = c.old
    · rw [if_pos e, e]; exact aget_adel_same l c.old h
    · rw [if_neg e]; exact aget_adel_other l (fun e' => e e'.symm)
  unfold applyC
  cases c.f with
  | none => exact hd
  | some f =>
    dsimp only
    by_cases e : n = c.name
    · rw [if_pos e, e]; exact aget_aset_same _ _ _
    · rw [if_neg e, aget_aset_other _ _ (fun e' => e e'.symm)]; exact hd
structure DiskA.Inj (A : DiskA) : Prop where
  nd : (A.files.map (·.1)).Nodup
  ids : ∀ n f, aget A.files n = some f → f ∈ A.ids
  one : ∀ n m f, aget A.files n = some f → aget A.files m = some f → n = m
  rt : ∀ n f, aget A.files n = some f → rightN n = true
theorem inj0 : disk0.Inj := ⟨List.nodup_nil, fun n f h => (by cases h), fun n m f h => (by cases h), fun n f h => (by cases h)⟩
theorem DiskA.Inj.step {A : DiskA} (h : A.Inj) (c : Chg) (hf : ∀ f, c.f = some f → (f ∈ A.ids ∧ rightN c.name = true) ∧ ∀ n, aget A.files n = some f → n = c.old) : (stepA c A).Inj := by
  have ha := aget_applyC c A.files h.nd
  refine ⟨applyC_nodup c A.files h.nd, fun n f hn => ?_, fun n m f hn hm => ?_, fun n f hn => ?_⟩
  · change aget (applyC c A.files) n = some f at hn
    rw [ha] at hn
    cases hc : c.f with
    | none =>
      rw [hc] at hn
      dsimp only at hn
      split at hn
      · cases hn
      · exact h.ids n f hn
    | some g =>
      rw [hc] at hn
      dsimp only at hn
      split at hn
      · cases hn; exact (hf f hc).1.1
      · split at hn
        · cases hn
        · exact h.ids n f hn
  · change aget (applyC c A.files) n = some f at hn
    change aget (applyC c A.files) m = some f at hm
    rw [ha] at hn hm
    cases hc : c.f with
    | none =>
      rw [hc] at hn hm
      dsimp only at hn hm
      split at hn
      · cases hn
      · split at hm
        · cases hm
        · exact h.one n m f hn hm
    | some g =>
      rw [hc] at hn hm
      dsimp only at hn hm
      have key : ∀ n, ¬ n = c.name → (if n = c.name then some g else if n = c.old then none else aget A.files n) = some g → False := fun n h1 h2 => by
        rw [if_neg h1] at h2
        split at h2
        · cases h2
        · rename_i h3; exact h3 ((hf g hc).2 n h2)
      by_cases e1 : n = c.name
      · rw [if_pos e1] at hn
        cases hn
        by_cases e2 : m = c.name
        · rw [e1, e2]
        · exact (key m e2 hm).elim
      · by_cases e2 : m = c.name
        · rw [if_pos e2] at hm
          cases hm
          exact (key n e1 hn).elim
        · rw [if_neg e1] at hn
          rw [if_neg e2] at hm
          split at hn
          · cases hn
          · split at hm
            · cases hm
            · exact h.one n m f hn hm
  · change aget (applyC c A.files) n = some f at hn
    rw [ha] at hn
    cases hc : c.f with
    | none =>
      rw [hc] at hn
      dsimp only at hn
      split at hn
      · cases hn
      · exact h.rt n f hn
    | some g =>
      rw [hc] at hn
      dsimp only at hn
      split at hn
      · rename_i e; rw [e]; exact (hf g hc).1.2
      · split at hn
        · cases hn
        · exact h.rt n f hn
theorem DiskA.Inj.born {A : DiskA} (h : A.Inj) (fb : Nat) : (bornA fb A).Inj := ⟨h.nd, fun n f hn => List.mem_cons_of_mem _ (h.ids n f hn), h.one, h.rt⟩
theorem DiskA.Small.mono {A : DiskA} {n m : Nat} (h : A.Small n) (hm : n ≤ m) : A.Small m :=
  ⟨h.now0, by have := h.now; omega, Nat.le_trans h.chg hm, Nat.le_trans h.syn hm, fun f hf => Nat.le_trans (h.pcs f hf) (by omega), Nat.le_trans h.fil hm⟩
theorem DiskA.Small.step {A : DiskA} {n : Nat} (h : A.Small n) (c : Chg) : (stepA c A).Small (n + 1) := by
  refine ⟨?_, ?_, ?_, ?_, fun f hf => Nat.le_trans (h.pcs f hf) (by omega), ?_⟩
  · have := h.now0; simp only [stepA]; omega
  · have := h.now; simp only [stepA]; omega
  · have := h.chg; simp [stepA]; omega
  · have := h.syn; simp only [stepA]; omega
  · have := h.fil; have := applyC_len c A.files; simp only [stepA]; omega
theorem ActA.small {x : OpA} {A A' : DiskA} {c : Int} (h : ActA x A c A') {n : Nat} (hs : A.Small n) : A'.Small (n + 1) := by
  have h0 := hs.mono (Nat.le_succ n)
  have hn0 := hs.now0
  have hn := hs.now
  unfold ActA at h
  split at h
  · rcases h with ⟨_, ⟨_, rfl⟩ | ⟨_, fb, hfb, rfl⟩⟩
    · exact h0
    · refine DiskA.Small.step (A := bornA fb A) ⟨hs.now0, hs.now, hs.chg, hs.syn, fun f hf => ?_, hs.fil⟩ _
      simp only [bornA]
      split
      · simp
      · rename_i e
        rcases List.mem_cons.1 hf with e2 | hf
        · exact absurd e2 e
        · exact hs.pcs f hf
  · split at h
    · rcases h with ⟨_, _, rfl⟩ | ⟨f, _, _, _, rfl⟩ | ⟨f, hf, _, _, rfl⟩
      · exact h0
      · exact h0
      · refine ⟨by simp only [appA]; omega, by simp only [appA]; omega, h0.chg, h0.syn, fun g hg => ?_, h0.fil⟩
        simp only [appA]
        split
        · rename_i e; subst e; have := hs.pcs g hg; simp; omega
        · exact h0.pcs g hg
    · split at h
      · rcases h with ⟨_, _, rfl⟩ | ⟨f, _, _, rfl⟩
        · exact h0
        · refine ⟨by simp only [syncA]; omega, by simp only [syncA]; omega, h0.chg, h0.syn, fun g hg => ?_, h0.fil⟩
          simp only [syncA]
          split
          · rename_i e; subst e; rw [List.length_map]; exact h0.pcs g hg
          · exact h0.pcs g hg
      · split at h
        · rcases h with ⟨_, _, rfl⟩ | ⟨_, _, _, rfl⟩ | ⟨f, _, hf, _, rfl⟩
          · exact h0
          · exact h0
          · exact hs.step _
        · split at h
          · rcases h with ⟨_, _, rfl⟩ | ⟨f, hf, _, rfl⟩
            · exact h0
            · exact hs.step _
          · split at h
            · rcases h with ⟨_, rfl⟩
              exact ⟨by simp only [synA]; omega, by simp only [synA]; omega, h0.chg, by have := hs.syn; simp [synA]; omega, h0.pcs, h0.fil⟩
            · rcases h with ⟨_, rfl⟩
              exact h0
theorem bytesP_syn (k : Int) (ps : List PcA) : bytesP (ps.map (synP k)) = bytesP ps := by
  unfold bytesP
  rw [List.flatMap_map]
  congr 1
  funext p
  simp only [synP]
  split <;> rfl
def pickN (c : Int) (n : Nat) : Nat := ((if c < 0 then -(c + 1) else c) % (n : Int)).toNat
def safeF (syn : List Int) (at_ : Int) : Int := syn.foldl (fun s n => if n ≤ at_ then n else s) 0
def openF (chg : List Chg) (safe at_ : Int) : Nat := (chg.filter fun c => decide (safe < c.at_) && decide (c.at_ ≤ at_)).length
def upto (safe at_ : Int) : List Chg → Nat → List (ByteArray × Nat) → List (ByteArray × Nat)
  | [], _, m => m
  | c :: cs, op, m => if safe < c.at_ then (if op = 0 ∨ at_ < c.at_ then m else upto safe at_ cs (op - 1) (applyC c m)) else upto safe at_ cs op (applyC c m)
def namesAtA (A : DiskA) (at_ names : Int) : List (ByteArray × Nat) := upto (safeF A.syn at_) at_ A.chg (pickN names (openF A.chg (safeF A.syn at_) at_ + 1)) A.base
def nLog : ByteArray := { data := #[108, 111, 103] }
def nNew : ByteArray := { data := #[110, 101, 119] }
def rmA (A : DiskA) : DiskA := if aget A.files nNew = none then A else stepA ⟨0, ⟨#[]⟩, nNew, none⟩ A
theorem hasN_names (A : DiskA) (n : ByteArray) : hasN (namesA A) n = true ↔ aget A.files n ≠ none := by
  rw [hasN_iff, (namesA_perm A).mem_iff, ne_eq, aget_none_iff]
  exact Classical.not_not.symm
def LogB (w : World) (lb pb : Nat) (vo : Value) (sy : Int) : Prop := w.heap[lb]? = some (.cells #[.pointer (some ⟨pb, 0, none⟩), vo, .int .i64 sy] 133 (0, 0))
theorem LogB.c0 {w : World} {lb pb : Nat} {vo : Value} {sy : Int} (h : LogB w lb pb vo sy) : w.cell? ⟨lb, 0, none⟩ = some (.pointer (some ⟨pb, 0, none⟩)) := Joins.cell_of_block h 0
theorem LogB.c1 {w : World} {lb pb : Nat} {vo : Value} {sy : Int} (h : LogB w lb pb vo sy) : w.cell? ⟨lb, 1, none⟩ = some vo := Joins.cell_of_block h 1
theorem LogB.c2 {w : World} {lb pb : Nat} {vo : Value} {sy : Int} (h : LogB w lb pb vo sy) : w.cell? ⟨lb, 2, none⟩ = some (.int .i64 sy) := Joins.cell_of_block h 2
theorem LogB.tag {w : World} {lb pb : Nat} {vo : Value} {sy : Int} (h : LogB w lb pb vo sy) : tagOf w lb = some 133 := tag_cells h
theorem LogB.lt {w : World} {lb pb : Nat} {vo : Value} {sy : Int} (h : LogB w lb pb vo sy) : lb < w.heap.size := tag_lt h.tag
theorem LogB.below {w w' : World} {lb pb : Nat} {vo : Value} {sy : Int} (h : LogB w lb pb vo sy) (hb : Below w.heap.size w w') : LogB w' lb pb vo sy := ((Ext.of_below (S := fun _ => False) hb).block lb h.lt id).trans h
theorem LogB.turn {base : Nat} {w w' : World} {lb : Nat} {vo : Value} {sy : Int} {D D' : DSh} {A A' : DiskA} (h : LogB w lb D.pb vo sy) (hd : DiskIs base w D A) (ht : Turned base w D A w' D' A') : LogB w' lb D'.pb vo sy := by
  unfold LogB
  rw [ht.pb]
  refine (ht.ext.block lb h.lt (fun hf => ?_)).trans h
  have := hd.dtag hf
  rw [h.tag] at this
  rcases this with h1 | h1 | h1 | h1 | h1 | h1 <;> revert h1 <;> decide
set_option maxRecDepth 20000 in
set_option maxHeartbeats 1000000 in
theorem unmade_any {base : Nat} {w : World} {D : DSh} {A : DiskA} (h : DiskIs base w D A) (hbw : base ≤ w.heap.size) {N : Nat} (hsm : A.Small N) (hN : N ≤ 1000000) (lb : Nat) (vo : Value) (sy : Int) (hl : LogB w lb D.pb vo sy) :
    Calls Tryz.prog 120 #[.pointer (some ⟨lb, 0, none⟩)] w fun e w' => e = .returned .nilIface ∧ ∃ D', Turned base w D A w' D' (rmA A) := by
  have c0 := hl.c0
  have HH := Lib.hid (And.intro h (And.intro hsm (And.intro hbw hl)))
  clear h hsm hbw hl
  go_enter Tryz.func120, Tryz.ntmps120
  go_wp2_with fail
  refine (names_any HH.out.1 (by have := HH.out.2.1.fil; omega)).mono ?_
  rintro e w1 ⟨v1, rfl, hown, hb⟩
  obtain ⟨xa, xc, hv1, hxc, hxm, -⟩ := hown.slice strc_len
  have HO := Lib.hid (And.intro (hown.slice strc_len) hb)
  subst hv1
  have c1 := (HH.out.2.2.2.below hb).c0
  clear hown hb
  go_wp2_with fail
  refine (contains_any _ (namesA A) nNew _ HO.out.1).mono ?_
  rintro e w2 ⟨rfl, rfl⟩
  cases hn : hasN (namesA A) nNew with
  | false =>
    have hno : aget A.files nNew = none := by
      cases hg : aget A.files nNew with
      | none => rfl
      | some f => have := (hasN_names A nNew).2 (by rw [hg]; simp); rw [hn] at this; cases this
    have HR : Hid (rmA A = A) := Lib.hid (by unfold rmA; rw [if_pos hno])
    go_wp2_with fail
    go_ret
    exact ⟨rfl, D, by rw [HR.out]; exact Turned.below HH.out.1 HO.out.2⟩
  | true =>
    have hne := (hasN_names A nNew).1 hn
    have HR : Hid (rmA A = stepA ⟨0, ⟨#[]⟩, nNew, none⟩ A) := Lib.hid (by unfold rmA; rw [if_neg hne])
    have HNE := Lib.hid hne
    clear hne
    go_wp2_with fail
    refine (remove_any (HH.out.1.below HO.out.2) (Nat.le_trans HH.out.2.2.1 HO.out.2.size) nNew HH.out.2.1.now0 (by have := HH.out.2.1.now; omega) (by have := HH.out.2.1.chg; omega)).mono ?_
    rintro e w3 hp
    rcases hp with ⟨hno, rfl, ht⟩ | ⟨f, D', hf, rfl, ht⟩
    · exact absurd hno HNE.out
    · have HT := Lib.hid ((Turned.below HH.out.1 HO.out.2).trans ht)
      clear hf ht
      go_wp2_with fail
      refine (check_any _ 0 _).mono ?_
      rintro e w4 ⟨rfl, rfl⟩
      rw [errO_zero]
      go_wp2_with fail
      go_ret
      exact ⟨rfl, D', by rw [HR.out]; exact HT.out⟩
def actO (k : Int) (n s : ByteArray) (bs : List UInt8) : OpA := ⟨k, n, s, ⟨none, 0, 0⟩, 0, 0, ⟨none, 0, 0⟩, 0, bs, []⟩
theorem DiskA.Small.make {A : DiskA} {n : Nat} (h : A.Small n) {x : ByteArray} {fb : Nat} (hc : makeCode A x = 0) (hf : fb ∉ A.ids) : (stepA ⟨0, x, ⟨#[]⟩, some fb⟩ (bornA fb A)).Small (n + 1) :=
  ActA.small (x := actO 1 x ⟨#[]⟩ []) (A := A) (c := 0) (by unfold ActA; refine Eq.mpr (if_pos (show (1 : Int) = 1 from rfl)) ?_; exact ⟨hc.symm, .inr ⟨rfl, fb, hf, rfl⟩⟩) h
theorem DiskA.Small.app {A : DiskA} {n : Nat} (h : A.Small n) {x : ByteArray} {f : Nat} {bs : List UInt8} (hg : aget A.files x = some f) (hs : sizeP (A.fs f) + bs.length ≤ 1048576) : (appA f bs A).Small (n + 1) :=
  ActA.small (x := actO 2 x ⟨#[]⟩ bs) (A := A) (c := 0) (by unfold ActA; refine Eq.mpr (if_neg (show ¬ (2 : Int) = 1 by decide)) ?_; refine Eq.mpr (if_pos (show (2 : Int) = 2 from rfl)) ?_; exact .inr (.inr ⟨f, hg, hs, rfl, rfl⟩)) h
theorem DiskA.Small.sync {A : DiskA} {n : Nat} (h : A.Small n) {x : ByteArray} {f : Nat} (hg : aget A.files x = some f) : (syncA f A).Small (n + 1) :=
  ActA.small (x := actO 3 x ⟨#[]⟩ []) (A := A) (c := 0) (by unfold ActA; refine Eq.mpr (if_neg (show ¬ (3 : Int) = 1 by decide)) ?_; refine Eq.mpr (if_neg (show ¬ (3 : Int) = 2 by decide)) ?_; refine Eq.mpr (if_pos (show (3 : Int) = 3 from rfl)) ?_; exact .inr ⟨f, hg, rfl, rfl⟩) h
theorem DiskA.Small.syn_ {A : DiskA} {n : Nat} (h : A.Small n) : (synA A).Small (n + 1) :=
  ActA.small (x := actO 6 ⟨#[]⟩ ⟨#[]⟩ []) (A := A) (c := 0) (by unfold ActA; refine Eq.mpr (if_neg (show ¬ (6 : Int) = 1 by decide)) ?_; refine Eq.mpr (if_neg (show ¬ (6 : Int) = 2 by decide)) ?_; refine Eq.mpr (if_neg (show ¬ (6 : Int) = 3 by decide)) ?_; refine Eq.mpr (if_neg (show ¬ (6 : Int) = 4 by decide)) ?_; refine Eq.mpr (if_neg (show ¬ (6 : Int) = 5 by decide)) ?_; refine Eq.mpr (if_pos (show (6 : Int) = 6 from rfl)) ?_; exact ⟨rfl, rfl⟩) h
theorem DiskA.Small.rm {A : DiskA} {n : Nat} (h : A.Small n) : (rmA A).Small (n + 1) := by
  unfold rmA
  split
  · exact h.mono (Nat.le_succ n)
  · exact h.step _
def an1 (fb : Nat) (A : DiskA) : DiskA := stepA ⟨0, nNew, ⟨#[]⟩, some fb⟩ (bornA fb (rmA A))
def an2 (fb : Nat) (bs : List UInt8) (A : DiskA) : DiskA := synA (syncA fb (appA fb bs (an1 fb A)))
def anewA (fb : Nat) (bs : List UInt8) (A : DiskA) : DiskA := synA (stepA ⟨0, nLog, nNew, some fb⟩ (an2 fb bs A))
theorem rmA_none {A : DiskA} (hn : (A.files.map (·.1)).Nodup) : aget (rmA A).files nNew = none := by
  unfold rmA
  split
  · assumption
  · exact aget_adel_same _ _ hn
theorem rmA_len (A : DiskA) : (rmA A).files.length ≤ A.files.length := by
  unfold rmA
  split
  · exact Nat.le_refl _
  · exact (adel_sub A.files nNew).length_le
theorem rmA_ids (A : DiskA) : (rmA A).ids = A.ids := by unfold rmA; split <;> rfl
theorem rightN_new : rightN nNew = true := by decide
theorem rightN_log : rightN nLog = true := by decide
theorem an_make {A : DiskA} (hn : (A.files.map (·.1)).Nodup) (hl : A.files.length ≤ 7) : makeCode (rmA A) nNew = 0 := by
  have h1 := rmA_none hn
  have h2 := rmA_len A
  unfold makeCode
  rw [rightN_new, h1]
  simp
  omega
theorem an1_get (fb : Nat) (A : DiskA) : aget (an1 fb A).files nNew = some fb := by
  unfold an1 stepA applyC
  exact aget_aset_same _ _ _
theorem an1_fs (fb : Nat) (A : DiskA) : (an1 fb A).fs fb = [] := by
  unfold an1 stepA bornA
  simp
def AnewPost (base : Nat) (w : World) (D : DSh) (A : DiskA) (bs : List UInt8) (e : Ending) (w' : World) : Prop :=
  (bs.length ≤ 1048576 ∧ e = .returned .nilIface ∧ ∃ fb D', fb ∉ A.ids ∧ Turned base w D A w' D' (anewA fb bs A)) ∨
  (1048576 < bs.length ∧ (∃ s, e = .returned (atErrO09 s 62)) ∧ ∃ fb D', fb ∉ A.ids ∧ Turned base w D A w' D' (stepA ⟨0, ⟨#[]⟩, nNew, none⟩ (an1 fb A)))
theorem Turned.keep {base : Nat} {w w' : World} {D D' : DSh} {A A' : DiskA} (ht : Turned base w D A w' D' A') (hd : DiskIs base w D A) {b : Nat} {o : Obj} (h : w.heap[b]? = some o) (hg : ¬ DTag (tagOf w b)) : w'.heap[b]? = some o :=
  (ht.ext.block b (Array.getElem?_eq_some_iff.1 h).1 (fun hf => hg (hd.dtag hf))).trans h
set_option maxRecDepth 20000 in
set_option maxHeartbeats 4000000 in
theorem anew_any {base : Nat} {w : World} {D : DSh} {A : DiskA} (h : DiskIs base w D A) (hbw : base ≤ w.heap.size) {N : Nat} (hsm : A.Small N) (hN : N ≤ 900000) (hfl : A.files.length ≤ 7) (lb : Nat) (vo : Value) (sy : Int) (hl : LogB w lb D.pb vo sy)
    (va : Option Addr) (vn vc : Nat) (bs : List UInt8) (hv : SliceIs u8c 1 w (.slice va vn vc) bs) (hvd : ∀ a, va = some a → ¬ DTag (tagOf w a.block)) (hbs : bs.length ≤ 70368744177664) :
    Calls Tryz.prog 86 #[.pointer (some ⟨lb, 0, none⟩), .slice va vn vc] w fun e w' => AnewPost base w D A bs e w' := by
  have HH := Lib.hid (And.intro h (And.intro hsm (And.intro hbw (And.intro hl hv))))
  clear h hsm hbw hl hv
  go_enter Tryz.func86, Tryz.ntmps86
  go_wp2_with fail
  refine (unmade_any HH.out.1 HH.out.2.2.1 HH.out.2.1 (by omega) lb vo sy HH.out.2.2.2.1).mono ?_
  rintro e w1 ⟨rfl, D1, ht1⟩
  have hl1 := HH.out.2.2.2.1.turn HH.out.1 ht1
  have c1 := hl1.c0
  have H1 := Lib.hid (And.intro ht1 (And.intro hl1 (Nat.le_trans HH.out.2.2.1 ht1.ext.size)))
  have S1 := Lib.hid HH.out.2.1.rm
  clear ht1 hl1
  go_wp2_with fail
  refine (make_any H1.out.1.is_ H1.out.2.2 nNew S1.out.now0 (by have := S1.out.now; omega) (by have := S1.out.chg; omega)).mono ?_
  rintro e w2 ⟨rfl, hp⟩
  rw [an_make HH.out.1.mfiles.1 hfl]
  rw [an_make HH.out.1.mfiles.1 hfl] at hp
  rcases hp with ⟨hno, _⟩ | ⟨_, fb, D2, hfb, ht2⟩
  · exact absurd rfl hno
  have hl2 := H1.out.2.1.turn H1.out.1.is_ ht2
  have c2 := hl2.c0
  have H2 := Lib.hid (And.intro ht2 (And.intro hl2 (And.intro (Nat.le_trans H1.out.2.2 ht2.ext.size) hfb)))
  have S2 := Lib.hid (S1.out.make (an_make HH.out.1.mfiles.1 hfl) hfb)
  clear ht2 hl2 hfb
  go_wp2_with fail
  refine (check_any _ 0 _).mono ?_
  rintro e w3 ⟨rfl, rfl⟩
  rw [errO_zero]
  go_wp2_with fail
  have T2 := Lib.hid (H1.out.1.trans H2.out.1)
  have hv2 : SliceIs u8c 1 w3 (.slice va vn vc) bs := HH.out.2.2.2.2.ext T2.out.ext (fun b o n cap e hf => by
    simp only [Value.slice.injEq] at e
    exact hvd _ e.1 (HH.out.1.dtag hf))
  have hsz : sizeP ((an1 fb A).fs fb) = 0 := by rw [an1_fs]; rfl
  refine (append_any T2.out.is_ H2.out.2.2.1 nNew _ bs hv2 hbs S2.out (by omega)).mono ?_
  rintro e w4 hp
  unfold AppPost at hp
  rcases hp with ⟨hno, _⟩ | ⟨f, hg, hbig, rfl, ht4⟩ | ⟨f, D4, hg, hsm4, rfl, ht4⟩
  · rw [show aget (stepA ⟨0, nNew, ⟨#[]⟩, some fb⟩ (bornA fb (rmA A))).files nNew = some fb from an1_get fb A] at hno
    cases hno
  · have hfe : f = fb := by
      have h9 := an1_get fb A
      unfold an1 at h9
      rw [h9] at hg
      exact (Option.some.inj hg).symm
    subst hfe
    have hb2 : 1048576 < bs.length := by
      have h9 := hsz
      unfold an1 at h9
      omega
    have H4 := Lib.hid (And.intro (T2.out.trans ht4) (And.intro (H2.out.2.1.turn T2.out.is_ ht4) (And.intro hb2 (Nat.le_trans H2.out.2.2.1 ht4.ext.size))))
    clear hg hbig ht4 hv2 hsz hb2
    have c4 := H4.out.2.1.c0
    go_wp2_with fail
    refine (check_any _ 62 _).mono ?_
    rintro e w5 ⟨rfl, rfl⟩
    rw [errO_ne _ (by decide)]
    unfold atErrO09
    go_wp2_with fail
    refine (remove_any H4.out.1.is_ H4.out.2.2.2 nNew S2.out.now0 (by have := S2.out.now; omega) (by have := S2.out.chg; omega)).mono ?_
    rintro e w6 hp
    rcases hp with ⟨hno, _⟩ | ⟨g, D6, _, rfl, ht6⟩
    · rw [show aget (stepA ⟨0, nNew, ⟨#[]⟩, some f⟩ (bornA f (rmA A))).files nNew = some f from an1_get f A] at hno
      cases hno
    · have H6 := Lib.hid (H4.out.1.trans ht6)
      clear ht6
      go_wp2_with fail
      go_ret
      exact .inr ⟨H4.out.2.2.1, ⟨_, rfl⟩, f, D6, by have := H2.out.2.2.2; rwa [rmA_ids] at this, H6.out⟩
  · have hfe : f = fb := by
      have h9 := an1_get fb A
      unfold an1 at h9
      rw [h9] at hg
      exact (Option.some.inj hg).symm
    subst hfe
    have hb2 : bs.length ≤ 1048576 := by
      have h9 := hsz
      unfold an1 at h9
      omega
    have S4 := Lib.hid (S2.out.app hg hsm4)
    have H4 := Lib.hid (And.intro (T2.out.trans ht4) (And.intro (H2.out.2.1.turn T2.out.is_ ht4) (And.intro hb2 (Nat.le_trans H2.out.2.2.1 ht4.ext.size))))
    clear hg hsm4 ht4 hv2 hsz hb2
    have c4 := H4.out.2.1.c0
    go_wp2_with fail
    refine (check_any _ 0 _).mono ?_
    rintro e w5 ⟨rfl, rfl⟩
    rw [errO_zero]
    go_wp2_with fail
    have hx0 : Below w5.heap.size w5 (w5.alloc (.cells #[.string ⟨#[115, 121, 110, 99]⟩, .string ⟨#[110, 97, 109, 101, 115]⟩, .string ⟨#[114, 101, 110, 97, 109, 101]⟩, .string ⟨#[110, 97, 109, 101, 115]⟩] 9)) := (Below.refl _ _).alloc (Nat.le_refl _) _
    have hn0 := heap_new8 w5 (.cells #[.string ⟨#[115, 121, 110, 99]⟩, .string ⟨#[110, 97, 109, 101, 115]⟩, .string ⟨#[114, 101, 110, 97, 109, 101]⟩, .string ⟨#[110, 97, 109, 101, 115]⟩] 9)
    obtain ⟨w6, hw6⟩ : ∃ w6, w5.alloc (.cells #[.string ⟨#[115, 121, 110, 99]⟩, .string ⟨#[110, 97, 109, 101, 115]⟩, .string ⟨#[114, 101, 110, 97, 109, 101]⟩, .string ⟨#[110, 97, 109, 101, 115]⟩] 9) = w6 := ⟨_, rfl⟩
    rw [hw6] at hx0 hn0 ⊢
    have HB0 := Lib.hid (And.intro (H4.out.1.trans (Turned.below H4.out.1.is_ hx0)) (And.intro (H4.out.2.1.below hx0) (And.intro hn0 (Nat.le_trans H4.out.2.2.2 hx0.size))))
    have HW6 := Lib.hid hw6
    clear hx0 hn0 c1 c2 c4 hw6
    refine wp_loop_rounds 5 ?_
    have cS0 : w6.cell? ⟨w5.heap.size, 0, none⟩ = some (.string ⟨#[115, 121, 110, 99]⟩) := Joins.cell_of_block HB0.out.2.2.1 0
    have cL0 := HB0.out.2.1.c0
    rw [rounds_succ]
    go_wp2_with fail
    refine (sync_any HB0.out.1.is_ nNew S4.out (by omega)).mono ?_
    rintro e w7 hp
    unfold SyncPost at hp
    rcases hp with ⟨hno, _⟩ | ⟨g, hg, rfl, ht⟩
    · rw [show aget (appA f bs (stepA ⟨0, nNew, ⟨#[]⟩, some f⟩ (bornA f (rmA A)))).files nNew = some f from an1_get f A] at hno
      cases hno
    have hge : g = f := by
      rw [show aget (appA f bs (stepA ⟨0, nNew, ⟨#[]⟩, some f⟩ (bornA f (rmA A)))).files nNew = some f from an1_get f A] at hg
      exact (Option.some.inj hg).symm
    subst hge
    have S5 := Lib.hid (S4.out.sync hg)
    clear hg
    have HB1 := Lib.hid (And.intro (HB0.out.1.trans ht) (And.intro (HB0.out.2.1.turn HB0.out.1.is_ ht) (And.intro (ht.keep HB0.out.1.is_ HB0.out.2.2.1 (by rw [tag_cells HB0.out.2.2.1]; unfold DTag; decide)) (Nat.le_trans HB0.out.2.2.2 ht.ext.size))))
    clear ht cS0 cL0
    go_wp2_with fail
    refine (check_any _ 0 _).mono ?_
    rintro e wq0 ⟨rfl, rfl⟩
    rw [errO_zero]
    go_wp2_with fail
    have cS1 : wq0.cell? ⟨w5.heap.size, 1, none⟩ = some (.string ⟨#[110, 97, 109, 101, 115]⟩) := Joins.cell_of_block HB1.out.2.2.1 1
    have cL1 := HB1.out.2.1.c0
    rw [rounds_succ]
    go_wp2_with fail
    refine (synNames_any HB1.out.1.is_ HB1.out.2.2.2 S5.out.now0 (by have := S5.out.now; omega) (by have := S5.out.syn; omega)).mono ?_
    rintro e w8 ⟨rfl, D8, ht⟩
    have S6 := Lib.hid S5.out.syn_
    have HB2 := Lib.hid (And.intro (HB1.out.1.trans ht) (And.intro (HB1.out.2.1.turn HB1.out.1.is_ ht) (And.intro (ht.keep HB1.out.1.is_ HB1.out.2.2.1 (by rw [tag_cells HB1.out.2.2.1]; unfold DTag; decide)) (Nat.le_trans HB1.out.2.2.2 ht.ext.size))))
    clear ht cS1 cL1
    go_wp2_with fail
    refine (check_any _ 0 _).mono ?_
    rintro e wq1 ⟨rfl, rfl⟩
    rw [errO_zero]
    go_wp2_with fail
    have cS2 : wq1.cell? ⟨w5.heap.size, 2, none⟩ = some (.string ⟨#[114, 101, 110, 97, 109, 101]⟩) := Joins.cell_of_block HB2.out.2.2.1 2
    have cL2 := HB2.out.2.1.c0
    rw [rounds_succ]
    go_wp2_with fail
    refine (rename_any HB2.out.1.is_ HB2.out.2.2.2 nNew nLog S6.out.now0 (by have := S6.out.now; omega) (by have := S6.out.chg; omega)).mono ?_
    rintro e w9 hp
    rcases hp with ⟨hno, _⟩ | ⟨_, hno, _⟩ | ⟨h, D9, _, hg, rfl, ht⟩
    · rw [rightN_log] at hno; cases hno
    · rw [show aget (synA (syncA g (appA g bs (stepA ⟨0, nNew, ⟨#[]⟩, some g⟩ (bornA g (rmA A)))))).files nNew = some g from an1_get g A] at hno
      cases hno
    rw [show aget (synA (syncA g (appA g bs (stepA ⟨0, nNew, ⟨#[]⟩, some g⟩ (bornA g (rmA A)))))).files nNew = some g from an1_get g A] at hg
    have hhe := Option.some.inj hg
    subst hhe
    have S7 := Lib.hid (S6.out.step ⟨0, nLog, nNew, some g⟩)
    clear hg
    have HB3 := Lib.hid (And.intro (HB2.out.1.trans ht) (And.intro (HB2.out.2.1.turn HB2.out.1.is_ ht) (And.intro (ht.keep HB2.out.1.is_ HB2.out.2.2.1 (by rw [tag_cells HB2.out.2.2.1]; unfold DTag; decide)) (Nat.le_trans HB2.out.2.2.2 ht.ext.size))))
    clear ht cS2 cL2
    go_wp2_with fail
    refine (check_any _ 0 _).mono ?_
    rintro e wq2 ⟨rfl, rfl⟩
    rw [errO_zero]
    go_wp2_with fail
    have cS3 : wq2.cell? ⟨w5.heap.size, 3, none⟩ = some (.string ⟨#[110, 97, 109, 101, 115]⟩) := Joins.cell_of_block HB3.out.2.2.1 3
    have cL3 := HB3.out.2.1.c0
    rw [rounds_succ]
    go_wp2_with fail
    refine (synNames_any HB3.out.1.is_ HB3.out.2.2.2 S7.out.now0 (by have := S7.out.now; omega) (by have := S7.out.syn; omega)).mono ?_
    rintro e w10 ⟨rfl, D10, ht⟩
    have HB4 := Lib.hid (And.intro (HB3.out.1.trans ht) (And.intro (HB3.out.2.1.turn HB3.out.1.is_ ht) (And.intro (ht.keep HB3.out.1.is_ HB3.out.2.2.1 (by rw [tag_cells HB3.out.2.2.1]; unfold DTag; decide)) (Nat.le_trans HB3.out.2.2.2 ht.ext.size))))
    clear ht cS3 cL3
    go_wp2_with fail
    refine (check_any _ 0 _).mono ?_
    rintro e wq3 ⟨rfl, rfl⟩
    rw [errO_zero]
    go_wp2_with fail
    rw [rounds_succ]
    go_wp2_with fail
    go_ret
    exact .inl ⟨H4.out.2.2.1, rfl, g, _, by have := H2.out.2.2.2; rwa [rmA_ids] at this, HB4.out.1⟩
def GoodB (l : List OpD) : Prop := l ≠ [] ∧ l.length ≤ 200 ∧ (∀ x ∈ l, x.right = true ∧ x.wf) ∧ (encB l).length ≤ 65536
theorem frmL_len (l : List OpD) : (frmL l).length = 11 + (encB l).length := wrapB_len _ _
theorem logT_iff {b : List UInt8} {l : List OpD} {n : Nat} : logT b = some (l, n) ↔ GoodB l ∧ n = (frmL l).length ∧ frmL l <+: b := by
  constructor
  · intro h
    cases ht : takeF b with
    | none => rw [logT_none ht] at h; cases h
    | some p =>
      obtain ⟨k, body⟩ := p
      by_cases hk : k = 66
      · subst hk
        cases hd : decB body with
        | none => rw [logT_no ht hd] at h; cases h
        | some m =>
          by_cases hm : m = []
          · subst hm; rw [logT_nil ht hd] at h; cases h
          · rw [logT_some ht hd hm] at h
            cases h
            have h1 := takeF_is ht
            have h2 := decB_iff.1 hd
            have h3 := h1.1
            have h4 := h1.2
            rw [← h2.2.2] at h3 h4 ⊢
            exact ⟨⟨hm, h2.1, h2.2.1, h3⟩, (frmL_len l).symm, h4⟩
      · rw [logT_kind ht hk] at h; cases h
  · rintro ⟨hg, rfl, hp⟩
    have ht : takeF b = some (66, encB l) := is_takeF ⟨hg.2.2.2, hp⟩
    rw [logT_some ht (decB_iff.2 ⟨hg.2.1, hg.2.2.1, rfl⟩) hg.1, frmL_len]
theorem frmL_inj {l m : List OpD} (hl : GoodB l) (hm : GoodB m) {r s : List UInt8} (h : frmL l ++ r = frmL m ++ s) : l = m ∧ r = s := by
  have h1 : logT (frmL l ++ r) = some (l, (frmL l).length) := logT_iff.2 ⟨hl, rfl, List.prefix_append _ _⟩
  have h2 : logT (frmL m ++ s) = some (m, (frmL m).length) := logT_iff.2 ⟨hm, rfl, List.prefix_append _ _⟩
  rw [h, h2] at h1
  cases h1
  exact ⟨rfl, List.append_cancel_left h⟩
noncomputable def logF : Nat → List UInt8 → List (List OpD)
  | 0, _ => []
  | k + 1, b => match logT b with | none => [] | some (l, n) => l :: logF k (b.drop n)
noncomputable def logL (b : List UInt8) : List (List OpD) := logF b.length b
def frmsL (ls : List (List OpD)) : List UInt8 := ls.flatMap frmL
theorem frmsL_cons (l : List OpD) (ls : List (List OpD)) : frmsL (l :: ls) = frmL l ++ frmsL ls := rfl
theorem frmsL_append (ls ms : List (List OpD)) : frmsL (ls ++ ms) = frmsL ls ++ frmsL ms := by unfold frmsL; rw [List.flatMap_append]
theorem frmsL_one (l : List OpD) : frmsL [l] = frmL l := by unfold frmsL; simp
noncomputable def logN (b : List UInt8) : Nat := (frmsL (logL b)).length
theorem logT_pre {b : List UInt8} {l : List OpD} {n : Nat} (h : logT b = some (l, n)) : b = frmL l ++ b.drop n ∧ 0 < n ∧ n ≤ b.length := by
  obtain ⟨hg, rfl, r, rfl⟩ := logT_iff.1 h
  refine ⟨by rw [List.drop_left], by rw [frmL_len]; omega, by simp⟩
theorem logF_spec : ∀ (k : Nat) (b : List UInt8), b.length ≤ k → (∀ l ∈ logF k b, GoodB l) ∧ ∃ r, b = frmsL (logF k b) ++ r ∧ logT r = none := by
  intro k
  induction k with
  | zero =>
    intro b hb
    obtain rfl : b = [] := List.length_eq_zero_iff.1 (by omega)
    exact ⟨fun l hl => (by cases hl), [], rfl, logT_none (takeF_short (by simp))⟩
  | succ k ih =>
    intro b hb
    cases ht : logT b with
    | none =>
      rw [logF, ht]
      exact ⟨fun l hl => (by cases hl), b, rfl, ht⟩
    | some p =>
      obtain ⟨l, n⟩ := p
      rw [logF, ht]
      dsimp only
      obtain ⟨h1, h2, h3⟩ := logT_pre ht
      obtain ⟨g, r, e, hr⟩ := ih (b.drop n) (by rw [List.length_drop]; omega)
      refine ⟨fun m hm => ?_, r, ?_, hr⟩
      · rcases List.mem_cons.1 hm with rfl | hm
        · exact (logT_iff.1 ht).1
        · exact g m hm
      · rw [frmsL_cons, List.append_assoc, ← e]
        exact h1
theorem frmsL_uniq : ∀ {ls ms : List (List OpD)} {r s : List UInt8}, (∀ l ∈ ls, GoodB l) → (∀ l ∈ ms, GoodB l) → frmsL ls ++ r = frmsL ms ++ s → logT r = none → logT s = none → ls = ms ∧ r = s
  | [], [], r, s, _, _, h, _, _ => ⟨rfl, h⟩
  | [], m :: ms, r, s, _, hm, h, hr, _ => by
    rw [frmsL_cons, List.append_assoc] at h
    have : logT r = some (m, (frmL m).length) := logT_iff.2 ⟨hm m (by simp), rfl, ⟨_, h.symm⟩⟩
    rw [hr] at this
    cases this
  | l :: ls, [], r, s, hl, _, h, _, hs => by
    rw [frmsL_cons, List.append_assoc] at h
    have : logT s = some (l, (frmL l).length) := logT_iff.2 ⟨hl l (by simp), rfl, ⟨_, h⟩⟩
    rw [hs] at this
    cases this
  | l :: ls, m :: ms, r, s, hl, hm, h, hr, hs => by
    rw [frmsL_cons, frmsL_cons, List.append_assoc, List.append_assoc] at h
    obtain ⟨rfl, h2⟩ := frmL_inj (hl l (by simp)) (hm m (by simp)) h
    obtain ⟨rfl, h3⟩ := frmsL_uniq (fun x hx => hl x (by simp [hx])) (fun x hx => hm x (by simp [hx])) h2 hr hs
    exact ⟨rfl, h3⟩
theorem drop_of9 {b x r : List UInt8} (h : b = x ++ r) : b.drop x.length = r := by subst h; exact List.drop_left
theorem take_of9 {b x r : List UInt8} (h : b = x ++ r) : b.take x.length = x := by subst h; exact List.take_left
theorem logL_spec (b : List UInt8) : (∀ l ∈ logL b, GoodB l) ∧ b = frmsL (logL b) ++ b.drop (logN b) ∧ logT (b.drop (logN b)) = none := by
  obtain ⟨g, r, e, hr⟩ := logF_spec b.length b (Nat.le_refl _)
  have e2 : b.drop (logN b) = r := drop_of9 e
  exact ⟨g, by rw [e2]; exact e, by rw [e2]; exact hr⟩
theorem logL_of {b r : List UInt8} {ls : List (List OpD)} (hg : ∀ l ∈ ls, GoodB l) (hb : b = frmsL ls ++ r) (hr : logT r = none) : logL b = ls ∧ b.drop (logN b) = r := by
  obtain ⟨g, e, h⟩ := logL_spec b
  obtain ⟨h1, h2⟩ := frmsL_uniq g hg (e.symm.trans hb) h hr
  exact ⟨h1, h2⟩
theorem logN_of {b r : List UInt8} {ls : List (List OpD)} (hg : ∀ l ∈ ls, GoodB l) (hb : b = frmsL ls ++ r) (hr : logT r = none) : logN b = (frmsL ls).length := by
  unfold logN
  rw [(logL_of hg hb hr).1]
theorem logN_take (b : List UInt8) : b.take (logN b) = frmsL (logL b) := by
  exact take_of9 (logL_spec b).2.1
structure LogIs (base : Nat) (w : World) (pb lb : Nat) (vo : Value) (L : List OpD) (sy : Int) : Prop where
  b : LogB w lb pb vo sy
  o : Own OpD.cells 26 68 base w vo L
  lo : base ≤ lb
  wf : ∀ x ∈ L, x.wf
theorem tag_op : ¬ DTag (some 68) := by unfold DTag; decide
theorem tag_log : ¬ DTag (some 133) := by unfold DTag; decide
theorem tag_u8 : ¬ DTag (some 5) := by unfold DTag; decide
section
variable {base B : Nat} {w w' w'' : World} {D D' D'' : DSh} {A A' A'' : DiskA} {pb lb : Nat} {vo vo' vo'' : Value} {L L' L'' : List OpD} {sy sy' sy'' : Int}
theorem LogIs.below (h : LogIs base w pb lb vo L sy) (hb : Below w.heap.size w w') : LogIs base w' pb lb vo L sy := ⟨h.b.below hb, h.o.below1 hb, h.lo, h.wf⟩
theorem LogIs.turn (h : LogIs base w D.pb lb vo L sy) (hd : DiskIs B w D A) (ht : Turned B w D A w' D' A') : LogIs base w' D'.pb lb vo L sy :=
  ⟨h.b.turn hd ht, h.o.ext ht.ext (fun b hb hf => tag_op (by rw [← tag_own h.o hb]; exact hd.dtag hf)), h.lo, h.wf⟩
theorem LogIs.mono (h : LogIs base w pb lb vo L sy) (hb : B ≤ base) : LogIs B w pb lb vo L sy := ⟨h.b, h.o.mono hb, Nat.le_trans hb h.lo, h.wf⟩
structure LT (base : Nat) (w : World) (D : DSh) (A : DiskA) (lb : Nat) (vo : Value) (w' : World) (D' : DSh) (A' : DiskA) (vo' : Value) (L' : List OpD) (sy' : Int) : Prop where
  disk : DiskIs base w' D' A'
  pb : D'.pb = D.pb
  log : LogIs base w' D'.pb lb vo' L' sy'
  ext : Ext (fun b => Foot D A b ∨ b = lb ∨ vo.ownBlock = some b) w w'
  foot : ∀ b, Foot D' A' b → Foot D A b ∨ w.heap.size ≤ b
  own : ∀ b, vo'.ownBlock = some b → vo.ownBlock = some b ∨ w.heap.size ≤ b
theorem LT.of_turned (hd : DiskIs base w D A) (hl : LogIs base w D.pb lb vo L sy) (ht : Turned base w D A w' D' A') : LT base w D A lb vo w' D' A' vo L sy :=
  ⟨ht.is_, ht.pb, hl.turn hd ht, ht.ext.mono (fun _ _ h => .inl h), ht.foot, fun _ h => .inl h⟩
theorem LT.trans (h : LT base w D A lb vo w' D' A' vo' L' sy') (k : LT base w' D' A' lb vo' w'' D'' A'' vo'' L'' sy'') : LT base w D A lb vo w'' D'' A'' vo'' L'' sy'' where
  disk := k.disk
  pb := k.pb.trans h.pb
  log := k.log
  ext := h.ext.andThen k.ext (fun i hi hs => by
    rcases hs with hs | hs | hs
    · exact .inl ((h.foot i hs).resolve_right (by omega))
    · exact .inr (.inl hs)
    · exact .inr (.inr ((h.own i hs).resolve_right (by omega))))
  foot b hb := by
    rcases k.foot b hb with e | e
    · exact h.foot b e
    · exact .inr (Nat.le_trans h.ext.size e)
  own b hb := by
    rcases k.own b hb with e | e
    · exact h.own b e
    · exact .inr (Nat.le_trans h.ext.size e)
theorem LT.turn (h : LT base w D A lb vo w' D' A' vo' L' sy') (k : Turned base w' D' A' w'' D'' A'') : LT base w D A lb vo w'' D'' A'' vo' L' sy' := h.trans (LT.of_turned h.disk h.log k)
theorem LT.below (h : LT base w D A lb vo w' D' A' vo' L' sy') (k : Below w'.heap.size w' w'') : LT base w D A lb vo w'' D' A' vo' L' sy' := h.turn (Turned.below h.disk k)
theorem LT.frame {w0 : World} (h : LT base w D A lb vo w' D' A' vo' L' sy') (hd : DiskIs base w D A) (hl : LogIs base w D.pb lb vo L sy) (hb : Below B w0 w) (hB : B ≤ base) (hs : B ≤ w.heap.size) : Below B w0 w' :=
  Ext.new hb h.ext (fun i hi _ hp => by
    rcases hp with hp | hp | hp
    · have := (hd.foot hp).1; omega
    · have := hl.lo; omega
    · have := (hl.o.blk i hp).1; omega) hs
theorem LogB.set1 (h : LogB w lb pb vo sy) (v : Value) : LogB (w.setCell ⟨lb, 1, none⟩ v) lb pb v sy := by
  have := Joins.block_setCell (i := 1) h v
  exact this
theorem LogB.set2 (h : LogB w lb pb vo sy) (n : Int) : LogB (w.setCell ⟨lb, 2, none⟩ (.int .i64 n)) lb pb vo n := by
  have := Joins.block_setCell (i := 2) h (.int .i64 n)
  exact this
theorem LogIs.set2 (h : LogIs base w pb lb vo L sy) (n : Int) : LogIs base (w.setCell ⟨lb, 2, none⟩ (.int .i64 n)) pb lb vo L n :=
  ⟨h.b.set2 n, h.o.ext (ext_set w lb 2 _) (fun b hb e => tag_ne (tag_own h.o hb) h.b.tag (by decide) e), h.lo, h.wf⟩
theorem DiskIs.setLog (hd : DiskIs base w D A) (hl : LogB w lb pb vo sy) (i : Nat) (v : Value) : DiskIs base (w.setCell ⟨lb, i, none⟩ v) D A :=
  hd.ext (ext_set w lb i v) (fun b hb e => tag_log (by rw [← hl.tag]; subst e; exact hd.dtag hb)) (fun b _ ht e => tag_ne ht hl.tag (by decide) e)
theorem LT.set2 (h : LT base w D A lb vo w' D' A' vo' L' sy') (n : Int) : LT base w D A lb vo (w'.setCell ⟨lb, 2, none⟩ (.int .i64 n)) D' A' vo' L' n :=
  ⟨h.disk.setLog h.log.b 2 _, h.pb, h.log.set2 n, h.ext.setCell (p := ⟨lb, 2, none⟩) (.inr (.inr (.inl rfl))) _, h.foot, h.own⟩
theorem LT.more (h : LT base w D A lb vo w' D' A' vo' L' sy') {v : Value} {xs : List OpD} (hx : Ext (fun b => vo'.ownBlock = some b) w' w'') (ho : Own OpD.cells 26 68 base w'' v (L' ++ xs)) (hn : ∀ b, v.ownBlock = some b → vo'.ownBlock = some b ∨ w'.heap.size ≤ b) (hwf : ∀ x ∈ xs, x.wf) :
    LT base w D A lb vo (w''.setCell ⟨lb, 1, none⟩ v) D' A' v (L' ++ xs) sy' := by
  have hl2 : LogB w'' lb D'.pb vo' sy' := (hx.block lb h.log.b.lt (fun e => tag_ne (tag_own h.log.o e) h.log.b.tag (by decide) rfl)).trans h.log.b
  have hd2 : DiskIs base w'' D' A' := h.disk.ext hx (fun b hb e => tag_op (by rw [← tag_own h.log.o e]; exact h.disk.dtag hb)) (fun b _ ht e => tag_ne ht (tag_own h.log.o e) (by decide) rfl)
  refine ⟨hd2.setLog hl2 1 v, h.pb, ⟨hl2.set1 v, ho.ext (ext_set w'' lb 1 v) (fun b hb e => tag_ne (tag_own ho hb) hl2.tag (by decide) e), h.log.lo, fun x hx => ?_⟩, ?_, h.foot, fun b hb => ?_⟩
  · rcases List.mem_append.1 hx with hx | hx
    · exact h.log.wf x hx
    · exact hwf x hx
  · refine Ext.setCell (p := ⟨lb, 1, none⟩) ?_ (.inr (.inr (.inl rfl))) _
    exact h.ext.andThen hx (fun i hi hs => .inr (.inr ((h.own i hs).resolve_right (by omega))))
  · rcases hn b hb with e | e
    · exact h.own b e
    · exact .inr (Nat.le_trans h.ext.size e)
end
def OpenA (A A' : DiskA) (L : List OpD) : Prop :=
  (aget A.files nLog = none ∧ L = [] ∧ ∃ fb, fb ∉ A.ids ∧ A' = synA (stepA ⟨0, nLog, ⟨#[]⟩, some fb⟩ (bornA fb (rmA A)))) ∨
  (∃ f, aget A.files nLog = some f ∧ L = (logL (bytesP (A.fs f))).flatten ∧
    (((logN (bytesP (A.fs f)) < (bytesP (A.fs f)).length ∨ aget A.files nNew ≠ none) ∧ ∃ fb, fb ∉ A.ids ∧ A' = anewA fb ((bytesP (A.fs f)).take (logN (bytesP (A.fs f)))) A) ∨
     (logN (bytesP (A.fs f)) = (bytesP (A.fs f)).length ∧ aget A.files nNew = none ∧ A' = synA (syncA f A))))
theorem slice_to09 {P : Program} {α : Type} {ea : α → List Value} {q : Nat} {t e : TypeId} (ht : P.underlying t = some (.slice e)) (hsz : (P.info? e).map (·.size) = some q) (a : Option Addr) (n cap p : Nat) (hn : n ≤ cap) (hp : p ≤ n) :
    ∃ a', (∀ W, (Instr.slice t (.slice a n cap) none (some (.int .i64 (p : Int))) none).run P W = .ok (.slice a' p cap) W) ∧ (∀ W (l : List α), l.length = n → SliceIs ea q W (.slice a n cap) l → SliceIs ea q W (.slice a' p cap) (l.take p)) ∧ (∀ ad, a' = some ad → ∃ ad0, a = some ad0 ∧ ad.block = ad0.block) := by
  obtain ⟨a', h1, h2⟩ := slice_to21 (ea := ea) ht hsz a n cap p hn hp
  refine ⟨a', h1, h2, fun ad had => ?_⟩
  obtain ⟨i, hi, hq⟩ : ∃ i, P.info? e = some i ∧ i.size = q := by
    cases h : P.info? e with
    | none => rw [h] at hsz; cases hsz
    | some i => rw [h] at hsz; exact ⟨i, rfl, Option.some.inj hsz⟩
  have hpc : p ≤ cap := by omega
  have h3 := h1 default
  simp [Instr.slice, Instr.sliceBounds, Instr.sliceBound, asIntOf, run_underlying ht, sizeOf, typeInfo, hi, hq, hpc, hn, eq_comm] at h3
  subst h3
  split at had
  · exact ⟨ad, had, rfl⟩
  · cases a with
    | none => cases had
    | some a0 =>
      simp at had
      subst had
      refine ⟨a0, rfl, ?_⟩
      unfold Addr.add
      split <;> rfl
theorem append_structs9 {P : Program} {w : World} {α : Type} {ea : α → List Value} {k : Nat} {e : TypeId} {base : Nat} {v vx : Value} {l ys : List α} (t ty : TypeId) (i : TypeInfo) (z : Value) (bytes : Nat) (ht : P.underlying t = some (.slice e)) (hi : P.info? e = some i) (hz : i.zero = some z)
    (hsize : i.size = k) (hby : i.bytes = bytes) (hzs : z.cells.size = k) (hk0 : 0 < k) (hk : ∀ x, (ea x).length = k) (h1 : ∀ x, ∀ u ∈ ea x, u.oneCell' = true)
    (hown : Own ea k e base w v l) (hx : SliceIs ea k w vx ys) (hne : ys ≠ []) (h63 : l.length + ys.length ≤ maxLen) (hbytes : (l.length + ys.length) * bytes ≤ 140737488355328) (hbase : base ≤ w.heap.size) :
    ∃ v' w', (Builtin.append_ #[t, t] ty #[v, vx]).run P w = .ok v' w' ∧ Own ea k e base w' v' (l ++ ys) ∧ Ext (fun b => v.ownBlock = some b) w w' ∧ ∀ b, v'.ownBlock = some b → v.ownBlock = some b ∨ w.heap.size ≤ b := by
  obtain ⟨v', w', hr, ho, hxt⟩ := append_structs t ty i z bytes ht hi hz hsize hby hzs hk0 hk h1 hown hx h63 hbytes hbase
  refine ⟨v', w', hr, ho, hxt, ?_⟩
  obtain ⟨a, cap, rfl, hcap, hmax, hcs⟩ := hx
  obtain ⟨b, o, rfl, hc⟩ := hcs hne
  refine append_new t ty i z k bytes ht hi hz hsize hby v l.length (l.flatMap ea) hown ⟨b, o, none⟩ ys.length cap (ys.flatMap ea) (by rw [length_flatMap_k hk]) (fun j u hj => ?_) (fun u hu => ?_) h63 hbytes (List.length_pos_iff.2 hne) hr
  · have hjl := (List.getElem?_eq_some_iff.1 hj).1
    rw [length_flatMap_k hk] at hjl
    have hdm : j / k * k + j % k = j := by rw [Nat.mul_comm]; exact Nat.div_add_mod j k
    have hq : j / k < ys.length := Nat.div_lt_of_lt_mul (by rw [Nat.mul_comm]; exact hjl)
    obtain ⟨x, hx⟩ : ∃ x, ys[j / k]? = some x := ⟨_, List.getElem?_eq_getElem hq⟩
    obtain ⟨u', hu'⟩ : ∃ u', (ea x)[j % k]? = some u' := ⟨_, List.getElem?_eq_getElem (by rw [hk]; exact Nat.mod_lt _ hk0)⟩
    have h3 := getElem?_flatMap_k hk ys (j / k) x hx (j % k) u' hu'
    rw [hdm, hj] at h3
    cases h3
    have h4 := hc (j / k) x hx (j % k) u hu'
    rw [Nat.add_assoc, hdm] at h4
    rw [show (Addr.add ⟨b, o, none⟩ j) = ⟨b, o + j, none⟩ from by unfold Addr.add; split <;> simp_all]
    exact h4
  · obtain ⟨x, _, hx⟩ := List.mem_flatMap.1 hu
    exact h1 x u hx
theorem ErrTy.extB {S : Nat → Prop} {w w' : World} (h : ErrTy w) (hx : Ext S w w') (hS : ∀ i, S i → 0 < i) : ErrTy w' := hx.keep h (fun e => by have := hS 0 e; omega)
theorem LT.errTy {base : Nat} {w w' : World} {D D' : DSh} {A A' : DiskA} {lb : Nat} {vo vo' : Value} {L L' : List OpD} {sy sy' : Int} (h : LT base w D A lb vo w' D' A' vo' L' sy') (hd : DiskIs base w D A) (hl : LogIs base w D.pb lb vo L sy) (h0 : 0 < base) (hg : ErrTy w) : ErrTy w' :=
  hg.extB h.ext (fun i hi => by
    rcases hi with hi | hi | hi
    · have := (hd.foot hi).1; omega
    · have := hl.lo; omega
    · have := (hl.o.blk i hi).1; omega)
theorem Turned.errTy {base : Nat} {w w' : World} {D D' : DSh} {A A' : DiskA} (h : Turned base w D A w' D' A') (hd : DiskIs base w D A) (h0 : 0 < base) (hg : ErrTy w) : ErrTy w' :=
  hg.extB h.ext (fun i hi => by have := (hd.foot hi).1; omega)
theorem good_count : ∀ (ls : List (List OpD)), (∀ l ∈ ls, GoodB l) → ls.flatten.length ≤ 200 * ls.length ∧ 11 * ls.length ≤ (frmsL ls).length
  | [], _ => ⟨by simp, by simp⟩
  | l :: ls, h => by
    obtain ⟨h1, h2⟩ := good_count ls (fun m hm => h m (by simp [hm]))
    have h3 := (h l (by simp)).2.1
    have h4 := frmL_len l
    rw [frmsL_cons, List.length_append, List.flatten_cons, List.length_append, List.length_cons]
    constructor <;> omega
def OpenPost (base : Nat) (w : World) (D : DSh) (A : DiskA) (lb : Nat) (e : Ending) (w' : World) : Prop :=
  e = .returned .nilIface ∧ ∃ D' A' vo L, OpenA A A' L ∧ LT base w D A lb (.slice none 0 0) w' D' A' vo L 0
set_option maxRecDepth 20000 in
set_option maxHeartbeats 4000000 in
theorem open_any {base : Nat} {w : World} {D : DSh} {A : DiskA} (h : DiskIs base w D A) (hbw : base ≤ w.heap.size) {N : Nat} (hsm : A.Small N) (hN : N ≤ 800000) (hfl : A.files.length ≤ 7) (lb : Nat) (hl : LogIs base w D.pb lb (.slice none 0 0) [] 0) (hg : ErrTy w) (h0 : 0 < base) :
    Calls Tryz.prog 72 #[.pointer (some ⟨lb, 0, none⟩)] w fun e w' => OpenPost base w D A lb e w' := by
  have HH := Lib.hid (And.intro h (And.intro hsm (And.intro hbw (And.intro hl hg))))
  have c0 := hl.b.c0
  clear h hsm hbw hl hg
  go_enter Tryz.func72, Tryz.ntmps72
  go_wp2_with fail
  refine (read_any HH.out.1 nLog HH.out.2.1 (by omega)).mono ?_
  rintro e w1 hp
  unfold ReadPost at hp
  rcases hp with ⟨hno, rfl, rfl⟩ | ⟨f, va, hf, rfl, hown, hb⟩
  · go_wp2_with fail
    refine (check_any _ 61 _).mono ?_
    rintro e w2 ⟨rfl, rfl⟩
    rw [errO_ne _ (by decide)]
    go_wp2_with fail
    refine (is_hit _ 61 61 _).mono ?_
    rintro e w3 ⟨rfl, hb3⟩
    have H3 := Lib.hid (Turned.below HH.out.1 hb3)
    have L3 := HH.out.2.2.2.1.below hb3
    have z3 := Nat.le_trans HH.out.2.2.1 hb3.size
    clear hb3
    go_wp2_with fail
    refine (unmade_any H3.out.is_ z3 HH.out.2.1 (by omega) lb _ _ L3.b).mono ?_
    rintro e w4 ⟨rfl, D4, ht4⟩
    have H4 := Lib.hid (H3.out.trans ht4)
    have L4 := L3.turn H3.out.is_ ht4
    have z4 := Nat.le_trans z3 ht4.ext.size
    have c4 := L4.b.c0
    have S4 := Lib.hid HH.out.2.1.rm
    have hmk : makeCode (rmA A) nLog = 0 := by
      have h1 : aget (rmA A).files nLog = none := by
        unfold rmA
        split
        · exact hno
        · show aget (applyC ⟨0, ⟨#[]⟩, nNew, none⟩ A.files) nLog = none
          rw [aget_applyC _ _ HH.out.1.mfiles.1]
          dsimp only
          split
          · rfl
          · exact hno
      have h2 := rmA_len A
      unfold makeCode
      rw [rightN_log, h1]
      simp
      omega
    clear ht4 L3 z3 c0
    go_wp2_with fail
    refine (make_any H4.out.is_ z4 nLog S4.out.now0 (by have := S4.out.now; omega) (by have := S4.out.chg; omega)).mono ?_
    rintro e w5 ⟨rfl, hp⟩
    rw [hmk] at hp ⊢
    rcases hp with ⟨hc, _⟩ | ⟨_, fb, D5, hfb, ht5⟩
    · exact absurd rfl hc
    have H5 := Lib.hid (H4.out.trans ht5)
    have L5 := L4.turn H4.out.is_ ht5
    have z5 := Nat.le_trans z4 ht5.ext.size
    have c5 := L5.b.c0
    have S5 := Lib.hid (S4.out.make hmk hfb)
    rw [rmA_ids] at hfb
    have F5 := Lib.hid hfb
    clear ht5 L4 z4 c4 hmk hfb
    go_wp2_with fail
    refine (check_any _ 0 _).mono ?_
    rintro e w6 ⟨rfl, rfl⟩
    rw [errO_zero]
    go_wp2_with fail
    refine (synNames_any H5.out.is_ z5 S5.out.now0 (by have := S5.out.now; omega) (by have := S5.out.syn; omega)).mono ?_
    rintro e w7 ⟨rfl, D7, ht7⟩
    have H7 := Lib.hid (H5.out.trans ht7)
    clear ht7 L5 z5 c5
    go_wp2_with fail
    refine (check_any _ 0 _).mono ?_
    rintro e w8 ⟨rfl, rfl⟩
    rw [errO_zero]
    go_wp2_with fail
    go_ret
    exact ⟨rfl, D7, _, _, [], .inl ⟨hno, rfl, fb, F5.out, rfl⟩, LT.of_turned HH.out.1 HH.out.2.2.2.1 H7.out⟩
  · obtain ⟨xa, xc, hv1, hxc, hxm, -⟩ := hown.slice u8c_len
    unfold maxLen at hxm
    obtain ⟨b, hbe⟩ : ∃ b, bytesP (A.fs f) = b := ⟨_, rfl⟩
    have hbl : b.length ≤ 1048576 := by rw [← hbe, bytesP_len]; exact HH.out.1.ok.sz f (HH.out.1.ok.inf _ _ (aget_mem hf)).1
    rw [hbe] at hown hv1 hxc
    have HS : Hid (SliceIs u8c 1 w1 va b ∧ Own u8c 1 5 w.heap.size w1 va b) := Lib.hid ⟨hown.slice u8c_len, hown⟩
    have HF := Lib.hid (And.intro hf hbe)
    subst hv1
    have T1 := Lib.hid (LT.of_turned HH.out.1 HH.out.2.2.2.1 (Turned.below HH.out.1 hb))
    have G1 := Lib.hid (HH.out.2.2.2.2.below hb)
    have z1 := Nat.le_trans HH.out.2.2.1 hb.size
    clear hown hf hb hbe c0
    obtain ⟨q, hq⟩ : ∃ q, b.length = q := ⟨_, rfl⟩
    have HQ := Lib.hid hq
    rw [hq] at hxc hbl ⊢
    clear hq
    go_wp2_with fail
    refine (check_any _ 0 _).mono ?_
    rintro e w2 ⟨rfl, rfl⟩
    rw [errO_zero]
    go_wp2_with fail
    refine (is_none 61 _).mono ?_
    rintro e w3 ⟨rfl, rfl⟩
    go_wp2_with fail
    go_loopg [8] q (fun g kv wx => ∃ (ls : List (List OpD)) (k : Nat) (vo : Value), g = q - k ∧ kv = .int .i64 k ∧ k ≤ q ∧ Hid (k = (frmsL ls).length ∧ b = frmsL ls ++ b.drop k ∧ (∀ l ∈ ls, GoodB l)) ∧
      Hid (LT base w D A lb (.slice none 0 0) wx D A vo ls.flatten 0 ∧ Own u8c 1 5 w.heap.size wx (.slice xa q xc) b ∧ ErrTy wx ∧ base ≤ wx.heap.size))
    case atStart => exact ⟨[], 0, _, rfl, rfl, Nat.zero_le _, Lib.hid ⟨rfl, by simp [frmsL], fun l hl => (by cases hl)⟩, Lib.hid ⟨T1.out, by rw [← HQ.out]; exact HS.out.2, G1.out, z1⟩⟩
    case round =>
      obtain ⟨ls, k, vo, hg, rfl, hkq, HP, HM⟩ := hrel
      have HG := Lib.hid hg
      clear hg
      obtain ⟨a1, c1, hsl, hS1, -⟩ := slice_from (P := Tryz.prog) (ea := u8c) Tryz.underlying22 size_u8 xa q xc k hxc hkq
      have HS1 := Lib.hid (hS1 wr b HQ.out (HM.out.2.1.slice u8c_len))
      have cL0 := HM.out.1.log.b.c0
      have cL1 := HM.out.1.log.b.c1
      clear hS1
      go_wp2_with fail
      refine (ltake_any _ (b.drop k) _ HS1.out HM.out.2.2.1).mono ?_
      rintro e w4 hp
      unfold LTPost at hp
      rcases hp with ⟨l, n, x, hl, rfl, ho, hb4⟩ | ⟨hl, rfl, hb4⟩
      · obtain ⟨hbd, hn0, hnl⟩ := logT_pre hl
        obtain ⟨hgl, hne, -⟩ := logT_iff.1 hl
        have hkn : k + n ≤ q := by rw [List.length_drop, HQ.out] at hnl; omega
        have HP2 : Hid (k + n = (frmsL (ls ++ [l])).length ∧ b = frmsL (ls ++ [l]) ++ b.drop (k + n) ∧ (∀ m ∈ ls ++ [l], GoodB m)) := Lib.hid (by
          refine ⟨?_, ?_, fun m hm => ?_⟩
          · rw [frmsL_append, frmsL_one, List.length_append, ← hne, ← HP.out.1]
          · rw [frmsL_append, frmsL_one, List.append_assoc, ← List.drop_drop, ← hbd]
            exact HP.out.2.1
          · rcases List.mem_append.1 hm with hm | hm
            · exact HP.out.2.2 m hm
            · rw [List.mem_singleton.1 hm]; exact hgl)
        have HGL := Lib.hid hgl
        have hcnt := good_count ls HP.out.2.2
        have hcl : ls.flatten.length ≤ 20000000 := by have := HP.out.1; omega
        have hll := hgl.2.1
        have T4 := Lib.hid (HM.out.1.below hb4)
        have O4 := Lib.hid (HM.out.2.1.below1 hb4)
        have z4 : base ≤ w4.heap.size := Nat.le_trans HM.out.2.2.2 hb4.size
        have G4 := Lib.hid (HM.out.2.2.1.below hb4)
        obtain ⟨ya, yc, hx, hyc, hym, -⟩ := ho.slice OpD.len
        unfold maxLen at hym
        have hl0 : ¬ ((l.length : Nat) : Int) = 0 := by have := List.length_pos_iff.2 hgl.1; omega
        subst hx
        have hox := ho.slice OpD.len
        obtain ⟨i0, hi, hz0, hz1, hz2⟩ := info_parts info_op
        obtain ⟨v', w', hr, ho5, hx5, hn5⟩ := append_structs9 (P := Tryz.prog) 24 24 i0 _ _ Tryz.underlying24 hi hz0 hz1 hz2 rfl (by omega) OpD.len OpD.one T4.out.log.o hox hgl.1 (by unfold maxLen; omega) (by omega) z4
        obtain ⟨sv, hsv⟩ := ho5.slv
        subst hsv
        have hl2 := (hx5.block lb T4.out.log.b.lt (fun e => tag_ne (tag_own T4.out.log.o e) T4.out.log.b.tag (by decide) rfl)).trans T4.out.log.b
        have T5 := Lib.hid (T4.out.more hx5 ho5 hn5 (fun y hy => (HGL.out.2.2.1 y hy).2))
        have O5 : Hid (Own u8c 1 5 w.heap.size w' (.slice xa q xc) b) := Lib.hid (O4.out.ext hx5 (fun b hb e => tag_ne (tag_own O4.out hb) (tag_own T4.out.log.o e) (by decide) rfl))
        have G5 : Hid (ErrTy w') := Lib.hid (G4.out.extB hx5 (fun i hi => by have := (T4.out.log.o.blk i hi).1; omega))
        have z5 : base ≤ w'.heap.size := Nat.le_trans z4 hx5.size
        have cM0 := T4.out.log.b.c0
        have cM1 := T4.out.log.b.c1
        have fM1 : w'.frozen? ⟨lb, 1, none⟩ = false := Joins.unfrozen_of_block hl2 1
        have cN1 : w'.cell? ⟨lb, 1, none⟩ = some vo := Joins.cell_of_block hl2 1
        have HR := Lib.hid hr
        have HL2 := Lib.hid hl2
        obtain ⟨ql, hql⟩ : ∃ ql, l.length = ql := ⟨_, rfl⟩
        rw [hql] at hl0 hyc hll ⊢
        have HRL : Hid ((Builtin.append_ #[24, 24] 24 #[vo, .slice ya ql yc]).run Tryz.prog w4 = .ok (.slice sv.a sv.n sv.cap) w') := Lib.hid (by rw [← hql]; exact HR.out)
        clear hl ho hb4 hbd hnl hgl hne hcnt hcl hox hi hz0 hz1 hz2 hr ho5 hx5 hn5 hl2 HR hql
        go_wp2_with (at_builtin; refine wpList_append_run rfl _ _ _ rfl rfl rfl HRL.out ?_)
        go_roundg (q - (k + n))
        case measure => rw [HG.out]; omega
        case rel =>
          refine ⟨ls ++ [l], k + n, sv.val, rfl, by simp, hkn, HP2, Lib.hid ⟨?_, ?_, ?_, ?_⟩⟩
          · rw [List.flatten_append, List.flatten_singleton]; exact T5.out
          · exact O5.out.ext (ext_set w' lb 1 _) (fun b hb e => tag_ne (tag_own O5.out hb) (tag_cells HL2.out) (by decide) e)
          · exact G5.out.extB (ext_set w' lb 1 _) (fun i hi => by subst hi; have := T4.out.log.lo; omega)
          · simpa using z5
      · have HL : Hid (logL b = ls ∧ logN b = k) := Lib.hid ⟨(logL_of HP.out.2.2 HP.out.2.1 hl).1, by rw [logN_of HP.out.2.2 HP.out.2.1 hl, ← HP.out.1]⟩
        have T4 := Lib.hid (HM.out.1.below hb4)
        have O4 := Lib.hid (HM.out.2.1.below1 hb4)
        have z4 : base ≤ w4.heap.size := Nat.le_trans HM.out.2.2.2 hb4.size
        have cM0 := T4.out.log.b.c0
        clear hl hb4
        by_cases hkq2 : k < q
        · have hki : (k : Int) < (q : Int) := by omega
          obtain ⟨a2, hsl2, hS2, hB2⟩ := slice_to09 (P := Tryz.prog) (ea := u8c) Tryz.underlying22 size_u8 xa q xc k hxc hkq
          have HS2 := Lib.hid (hS2 w4 b HQ.out (O4.out.slice u8c_len))
          have HA : Hid (b.take (logN b) = b.take k) := Lib.hid (by rw [HL.out.2])
          clear hS2
          have hvd : ∀ ad, a2 = some ad → ¬ DTag (tagOf w4 ad.block) := fun ad he => by
            obtain ⟨ad0, e0, e1⟩ := hB2 ad he
            have hown := O4.out
            subst e0
            rcases hown.eq_slice with ⟨e2, _⟩ | ⟨g, c, e2, _⟩
            · simp at e2
            · simp only [Value.slice.injEq, Option.some.injEq] at e2
              have := tag_own hown (b := ad0.block) (by rw [e2.1]; rfl)
              rw [e1, this]
              exact tag_u8
          have HVD := Lib.hid hvd
          clear hB2 hvd
          go_wp2_with fail
          refine (anew_any T4.out.disk z4 HH.out.2.1 (by omega) hfl lb _ _ T4.out.log.b _ _ _ (b.take k) HS2.out HVD.out (by rw [List.length_take]; omega)).mono ?_
          rintro e w8 hp
          unfold AnewPost at hp
          rcases hp with ⟨hle, rfl, fb, D8, hfb, ht⟩ | ⟨hbig, _⟩
          · have T8 := Lib.hid (T4.out.turn ht)
            clear ht
            go_wp2_with fail
            go_ret
            refine ⟨rfl, D8, _, vo, ls.flatten, .inr ⟨f, HF.out.1, by rw [HF.out.2, HL.out.1], .inl ⟨.inl (by rw [HF.out.2, HL.out.2, HQ.out]; exact hkq2), fb, hfb, by rw [HF.out.2, HA.out]⟩⟩, T8.out⟩
          · rw [List.length_take] at hbig
            omega
        · have hki : ¬ (k : Int) < (q : Int) := by omega
          go_wp2_with fail
          refine (names_any T4.out.disk (by omega)).mono ?_
          rintro e w5 ⟨v5, rfl, hown5, hb5⟩
          obtain ⟨xa5, xc5, hv5, hxc5, hxm5, -⟩ := hown5.slice strc_len
          have HN5 := Lib.hid (hown5.slice strc_len)
          have T5 := Lib.hid (T4.out.below hb5)
          have O5 := Lib.hid (O4.out.below1 hb5)
          have z5 : base ≤ w5.heap.size := Nat.le_trans z4 hb5.size
          have cP0 := T5.out.log.b.c0
          subst hv5
          clear hown5 hb5
          go_wp2_with fail
          refine (contains_any _ (namesA A) nNew _ HN5.out).mono ?_
          rintro e w6 ⟨rfl, rfl⟩
          cases hn : hasN (namesA A) nNew with
          | true =>
            have HNE : Hid (aget A.files nNew ≠ none) := Lib.hid ((hasN_names A nNew).1 hn)
            clear hn
            obtain ⟨a2, hsl2, hS2, hB2⟩ := slice_to09 (P := Tryz.prog) (ea := u8c) Tryz.underlying22 size_u8 xa q xc k hxc hkq
            have HS2 := Lib.hid (hS2 w6 b HQ.out (O5.out.slice u8c_len))
            have HA : Hid (b.take (logN b) = b.take k) := Lib.hid (by rw [HL.out.2])
            clear hS2
            have hvd : ∀ ad, a2 = some ad → ¬ DTag (tagOf w6 ad.block) := fun ad he => by
              obtain ⟨ad0, e0, e1⟩ := hB2 ad he
              have hown := O5.out
              subst e0
              rcases hown.eq_slice with ⟨e2, _⟩ | ⟨g, c, e2, _⟩
              · simp at e2
              · simp only [Value.slice.injEq, Option.some.injEq] at e2
                have := tag_own hown (b := ad0.block) (by rw [e2.1]; rfl)
                rw [e1, this]
                exact tag_u8
            have HVD := Lib.hid hvd
            clear hB2 hvd
            go_wp2_with fail
            refine (anew_any T5.out.disk z5 HH.out.2.1 (by omega) hfl lb _ _ T5.out.log.b _ _ _ (b.take k) HS2.out HVD.out (by rw [List.length_take]; omega)).mono ?_
            rintro e w8 hp
            unfold AnewPost at hp
            rcases hp with ⟨hle, rfl, fb, D8, hfb, ht⟩ | ⟨hbig, _⟩
            · have T8 := Lib.hid (T5.out.turn ht)
              clear ht
              go_wp2_with fail
              go_ret
              refine ⟨rfl, D8, _, vo, ls.flatten, .inr ⟨f, HF.out.1, by rw [HF.out.2, HL.out.1], .inl ⟨.inr HNE.out, fb, hfb, by rw [HF.out.2, HA.out]⟩⟩, T8.out⟩
            · rw [List.length_take] at hbig
              omega
          | false =>
            have HNE : Hid (aget A.files nNew = none) := Lib.hid (by
              cases hg : aget A.files nNew with
              | none => rfl
              | some f => have := (hasN_names A nNew).2 (by rw [hg]; simp); rw [hn] at this; cases this)
            clear hn
            go_wp2_with fail
            refine (sync_any T5.out.disk nLog HH.out.2.1 (by omega)).mono ?_
            rintro e w7 hp
            unfold SyncPost at hp
            rcases hp with ⟨hno, _⟩ | ⟨g, hg, rfl, ht⟩
            · rw [HF.out.1] at hno; cases hno
            have hgf : g = f := by rw [HF.out.1] at hg; exact (Option.some.inj hg).symm
            subst hgf
            have T7 := Lib.hid (T5.out.turn ht)
            have S7 := Lib.hid (HH.out.2.1.sync hg)
            have z7 := Nat.le_trans z5 ht.ext.size
            have cQ0 := T7.out.log.b.c0
            clear hg ht
            go_wp2_with fail
            refine (check_any _ 0 _).mono ?_
            rintro e w8 ⟨rfl, rfl⟩
            rw [errO_zero]
            go_wp2_with fail
            refine (synNames_any T7.out.disk z7 S7.out.now0 (by have := S7.out.now; omega) (by have := S7.out.syn; omega)).mono ?_
            rintro e w9 ⟨rfl, D9, ht⟩
            have T9 := Lib.hid (T7.out.turn ht)
            clear ht
            go_wp2_with fail
            refine (check_any _ 0 _).mono ?_
            rintro e w10 ⟨rfl, rfl⟩
            rw [errO_zero]
            go_wp2_with fail
            go_ret
            exact ⟨rfl, D9, _, vo, ls.flatten, .inr ⟨g, HF.out.1, by rw [HF.out.2, HL.out.1], .inr ⟨by rw [HF.out.2, HL.out.2, HQ.out]; omega, HNE.out, rfl⟩⟩, T9.out⟩
set_option maxRecDepth 20000 in
set_option maxHeartbeats 1000000 in
theorem cloneO_any {l : List OpD} {vx : Value} {w : World} (h : SliceIs OpD.cells 26 w vx l) (hl : l.length ≤ 100000000) :
    Calls Tryz.prog 74 #[vx] w fun e w' => ∃ v', e = .returned v' ∧ Own OpD.cells 26 68 w.heap.size w' v' l ∧ Below w.heap.size w w' := by
  obtain ⟨i0, hi, hz0, hz1, hz2⟩ := info_parts info_op
  have h0 := h
  obtain ⟨a, cap, rfl, hcap, hmax, hcs⟩ := h
  cases a with
  | none =>
    have hys : l = [] := Classical.byContradiction fun hn => by obtain ⟨b, o, e, _⟩ := hcs hn; cases e
    subst hys
    clear h0 hcs
    have hnil := fun (w : World) a n c => Lib.run_eql_slice_nil (P := Tryz.prog) w 24 _ a n c 0 0 Tryz.underlying24
    go_enter Tryz.func74, Tryz.ntmps74
    go_wp2
    go_ret
    exact ⟨_, rfl, Own.nil, Below.refl _ _⟩
  | some ad =>
    have ho := Own.empty (base := w.heap.size) OpD.cells 26 68 (w := w) (Nat.le_refl _)
    have hx := h0.below ((Below.refl w.heap.size w).alloc (Nat.le_refl _) (.cells #[] 68))
    obtain ⟨v', w', hr, hown, hx'⟩ := append_structs (P := Tryz.prog) 24 24 i0 _ _ Tryz.underlying24 hi hz0 hz1 hz2 rfl (by omega) OpD.len OpD.one ho hx (by simp [maxLen]; omega) (by simp; omega) (by simp)
    have hB := Ext.new ((Below.refl w.heap.size w).alloc (Nat.le_refl _) (.cells #[] 68)) hx' (fun i hi _ e => by have := (ho.blk i e).1; omega) (by simp)
    have HR := Lib.hid hr
    have HO := Lib.hid hown
    have HB := Lib.hid hB
    clear h0 hcs ho hx hr hown hx' hB hi hz0 hz1 hz2
    have hnil := fun (w : World) a n c => Lib.run_eql_slice_nil (P := Tryz.prog) w 24 _ a n c 0 0 Tryz.underlying24
    go_enter Tryz.func74, Tryz.ntmps74
    go_wp2_with (at_builtin; refine wpList_append_run rfl _ _ _ rfl rfl rfl HR.out ?_)
    go_ret
    exact ⟨_, rfl, HO.out, HB.out⟩
theorem opsnil_any (w : World) : Calls Tryz.prog 33 #[.pointer none] w fun e w' => e = .returned (.slice none 0 0) ∧ w' = w := by
  go_enter Tryz.func33, Tryz.ntmps33
  go_wp2
  go_ret
  exact ⟨rfl, rfl⟩
theorem syncednil_any (w : World) : Calls Tryz.prog 39 #[.pointer none] w fun e w' => e = .returned (.int .i64 0) ∧ w' = w := by
  go_enter Tryz.func39, Tryz.ntmps39
  go_wp2
  go_ret
  exact ⟨rfl, rfl⟩
theorem lsyncnil_any (w : World) : Calls Tryz.prog 41 #[.pointer none] w fun e w' => e = .returned (.int .i64 1) ∧ w' = w := by
  go_enter Tryz.func41, Tryz.ntmps41
  go_wp2
  go_ret
  exact ⟨rfl, rfl⟩
theorem lappendnil_any (v : Value) (w : World) : Calls Tryz.prog 40 #[.pointer none, v] w fun e w' => e = .returned (.int .i64 1) ∧ w' = w := by
  go_enter Tryz.func40, Tryz.ntmps40
  go_wp2
  go_ret
  exact ⟨rfl, rfl⟩
theorem lcompactnil_any (w : World) : Calls Tryz.prog 42 #[.pointer none] w fun e w' => e = .returned (.int .i64 1) ∧ Below w.heap.size w w' := by
  go_enter Tryz.func42, Tryz.ntmps42
  go_wp2_with fail
  refine bodyPost_ret (v := .int .i64 1) (by rw [results_cell8 rfl]; go_simp) rfl ?_
  exact ⟨rfl, (Below.refl _ _).alloc (Nat.le_refl _) _⟩
theorem lopennil_any (w : World) : Calls Tryz.prog 32 #[.pointer none] w fun e w' => e = .returned (.tuple #[.pointer none, .int .i64 1]) ∧ w' = w := by
  go_enter Tryz.func32, Tryz.ntmps32
  go_wp2
  go_ret2
  exact ⟨rfl, rfl⟩
theorem Own.raise {α : Type} {ea : α → List Value} {k : Nat} {e : TypeId} {base B : Nat} {w : World} {v : Value} {l : List α} (h : Own ea k e base w v l) (hb : ∀ b, v.ownBlock = some b → B ≤ b) : Own ea k e B w v l := by
  obtain ⟨h1, h2⟩ := h
  refine ⟨h1, ?_⟩
  rcases h2 with h2 | ⟨g, cap, cur, e1, h3, h4⟩
  · exact .inl h2
  · exact .inr ⟨g, cap, cur, e1, hb g (by rw [e1]; rfl), h4⟩
section
variable {base : Nat} {w : World} {D : DSh} {A : DiskA} {lb : Nat} {vo : Value} {L : List OpD} {sy : Int}
theorem lsynced_any {pb : Nat} (hl : LogIs base w pb lb vo L sy) : Calls Tryz.prog 39 #[.pointer (some ⟨lb, 0, none⟩)] w fun e w' => e = .returned (.int .i64 sy) ∧ w' = w := by
  have c2 := hl.b.c2
  go_enter Tryz.func39, Tryz.ntmps39
  go_wp2
  go_ret
  exact ⟨rfl, rfl⟩
theorem lops_any {pb : Nat} (hl : LogIs base w pb lb vo L sy) (hL : L.length ≤ 100000000) : Calls Tryz.prog 33 #[.pointer (some ⟨lb, 0, none⟩)] w fun e w' => ∃ v', e = .returned v' ∧ Own OpD.cells 26 68 w.heap.size w' v' L ∧ Below w.heap.size w w' := by
  have c1 := hl.b.c1
  have HS := Lib.hid (hl.o.slice OpD.len)
  obtain ⟨sl, hsl⟩ := hl.o.slv
  subst hsl
  clear hl
  go_enter Tryz.func33, Tryz.ntmps33
  go_wp2_with fail
  refine (cloneO_any HS.out hL).mono ?_
  rintro e w1 ⟨v1, rfl, ho, hb⟩
  have HO := Lib.hid (And.intro ho hb)
  clear ho hb
  go_wp2_with fail
  go_ret
  exact ⟨v1, rfl, HO.out.1, HO.out.2⟩
set_option maxRecDepth 20000 in
set_option maxHeartbeats 1000000 in
theorem lsync_any (hd : DiskIs base w D A) (hl : LogIs base w D.pb lb vo L sy) {N : Nat} (hsm : A.Small N) (hN : N ≤ 800000) :
    Calls Tryz.prog 41 #[.pointer (some ⟨lb, 0, none⟩)] w fun e w' =>
      (aget A.files nLog = none ∧ e = .returned (.int .i64 61) ∧ LT base w D A lb vo w' D A vo L sy) ∨ (∃ f, aget A.files nLog = some f ∧ e = .returned (.int .i64 0) ∧ LT base w D A lb vo w' D (syncA f A) vo L L.length) := by
  have c0 := hl.b.c0
  obtain ⟨a, cap, hvo, -, -, -⟩ := hl.o.slice OpD.len
  have HH := Lib.hid (And.intro hd (And.intro hl hsm))
  clear hd hl hsm
  go_enter Tryz.func41, Tryz.ntmps41
  go_wp2_with fail
  refine (sync_any HH.out.1 nLog HH.out.2.2 (by omega)).mono ?_
  rintro e w1 hp
  unfold SyncPost at hp
  rcases hp with ⟨hno, rfl, ht⟩ | ⟨f, hf, rfl, ht⟩
  · have HT := Lib.hid (LT.of_turned HH.out.1 HH.out.2.1 ht)
    clear ht c0
    go_wp2_with fail
    go_ret
    exact .inl ⟨hno, rfl, HT.out⟩
  · have HT := Lib.hid (LT.of_turned HH.out.1 HH.out.2.1 ht)
    clear ht c0
    have c1 := HT.out.log.b.c1
    rw [hvo] at c1
    have c2 := HT.out.log.b.c2
    have f2 : w1.frozen? ⟨lb, 2, none⟩ = false := Joins.unfrozen_of_block HT.out.log.b 2
    go_wp2_with fail
    go_ret
    exact .inr ⟨f, hf, rfl, HT.out.set2 _⟩
def LAppPost (base : Nat) (w : World) (D : DSh) (A : DiskA) (lb : Nat) (vo : Value) (L : List OpD) (sy : Int) (l : List OpD) (e : Ending) (w' : World) : Prop :=
  (∃ n : Int, e = .returned (.int .i64 n) ∧ (n = 1 ∧ (l = [] ∨ 200 < l.length) ∨ n = 71 ∧ l ≠ [] ∧ l.length ≤ 200 ∧ (∃ x ∈ l, x.right = false) ∨ n = 1 ∧ 65536 < (encB l).length ∨
      n = 61 ∧ GoodB l ∧ aget A.files nLog = none ∨ n = 62 ∧ GoodB l ∧ ∃ f, aget A.files nLog = some f ∧ 1048576 < sizeP (A.fs f) + (frmL l).length) ∧ LT base w D A lb vo w' D A vo L sy) ∨
  (GoodB l ∧ ∃ f D' vo', aget A.files nLog = some f ∧ sizeP (A.fs f) + (frmL l).length ≤ 1048576 ∧ e = .returned (.int .i64 0) ∧ LT base w D A lb vo w' D' (appA f (frmL l) A) vo' (L ++ l) sy)
set_option maxRecDepth 20000 in
set_option maxHeartbeats 2000000 in
theorem lappend_any (hd : DiskIs base w D A) (hbw : base ≤ w.heap.size) (hl : LogIs base w D.pb lb vo L sy) {N : Nat} (hsm : A.Small N) (hN : N ≤ 800000) (hL : L.length ≤ 100000000) (hg : ErrTy w) (h0 : 0 < base)
    (v : Value) (l : List OpD) (hv : SliceIs OpD.cells 26 w v l) (hvo : ∀ b o n cap, v = .slice (some ⟨b, o, none⟩) n cap → ¬ (Foot D A b ∨ b = lb ∨ vo.ownBlock = some b)) (hwf : ∀ x ∈ l, x.wf) (hn : l.length ≤ 1000000) :
    Calls Tryz.prog 40 #[.pointer (some ⟨lb, 0, none⟩), v] w fun e w' => LAppPost base w D A lb vo L sy l e w' := by
  obtain ⟨a, cap, rfl, hcap, hmax, -⟩ := id hv
  have HH := Lib.hid (And.intro hd (And.intro hl (And.intro hsm (And.intro hg (And.intro hv (And.intro hvo hwf))))))
  have z0 := hbw
  clear hd hl hsm hg hv hvo hwf
  obtain ⟨q, hq⟩ : ∃ q, l.length = q := ⟨_, rfl⟩
  have HQ := Lib.hid hq
  have HS : Hid (SliceIs OpD.cells 26 w (.slice a q cap) l) := Lib.hid (by rw [← hq]; exact HH.out.2.2.2.2.1)
  rw [hq] at hcap ⊢
  clear hq
  go_enter Tryz.func40, Tryz.ntmps40
  go_wp2_with fail
  refine (wrapped_any _ l _ HS.out HH.out.2.2.2.2.2.2 hn).mono ?_
  rintro e w1 hp
  unfold LWPost at hp
  rcases hp with ⟨h1, h2, h3, h4, x, rfl, hown, hb⟩ | ⟨s, n, hc, rfl, hb⟩
  · have hgood : GoodB l := ⟨h1, h2, fun y hy => ⟨h3 y hy, HH.out.2.2.2.2.2.2 y hy⟩, h4⟩
    have HX := Lib.hid (And.intro hgood (hown.slice u8c_len))
    obtain ⟨xa, xc, hx, hxc, hxm, -⟩ := hown.slice u8c_len
    have HT := Lib.hid (LT.of_turned HH.out.1 HH.out.2.1 (Turned.below HH.out.1 hb))
    have G1 := Lib.hid (HH.out.2.2.2.1.below hb)
    have z1 := Nat.le_trans z0 hb.size
    have hfl : (frmL l).length ≤ 65547 := by rw [frmL_len]; omega
    have c0 := HT.out.log.b.c0
    subst hx
    clear h1 h2 h3 h4 hgood hown hb
    go_wp2_with fail
    refine (append_any HT.out.disk z1 nLog _ (frmL l) HX.out.2 (by omega) HH.out.2.2.1 (by omega)).mono ?_
    rintro e w2 hp
    unfold AppPost at hp
    rcases hp with ⟨hno, rfl, ht⟩ | ⟨f, hf, hbig, rfl, ht⟩ | ⟨f, D2, hf, hfit, rfl, ht⟩
    · have H2 := Lib.hid (HT.out.turn ht)
      have G2 := Lib.hid (ht.errTy HT.out.disk h0 G1.out)
      clear ht c0
      go_wp2_with fail
      refine (check_any _ 61 _).mono ?_
      rintro e w3 ⟨rfl, rfl⟩
      rw [errO_ne _ (by decide)]
      unfold atErrO09
      go_wp2_with fail
      refine (number_err _ 61 _ G2.out).mono ?_
      rintro e w4 ⟨rfl, hb4⟩
      have H4 := Lib.hid (H2.out.below hb4)
      clear hb4
      go_wp2_with fail
      go_ret
      exact .inl ⟨61, rfl, .inr (.inr (.inr (.inl ⟨rfl, HX.out.1, hno⟩))), H4.out⟩
    · have H2 := Lib.hid (HT.out.turn ht)
      have G2 := Lib.hid (ht.errTy HT.out.disk h0 G1.out)
      clear ht c0
      go_wp2_with fail
      refine (check_any _ 62 _).mono ?_
      rintro e w3 ⟨rfl, rfl⟩
      rw [errO_ne _ (by decide)]
      unfold atErrO09
      go_wp2_with fail
      refine (number_err _ 62 _ G2.out).mono ?_
      rintro e w4 ⟨rfl, hb4⟩
      have H4 := Lib.hid (H2.out.below hb4)
      clear hb4
      go_wp2_with fail
      go_ret
      exact .inl ⟨62, rfl, .inr (.inr (.inr (.inr ⟨rfl, HX.out.1, f, hf, hbig⟩))), H4.out⟩
    · have H2 := Lib.hid (HT.out.turn ht)
      have z2 := Nat.le_trans z1 ht.ext.size
      have HF := Lib.hid (And.intro hf hfit)
      clear hf hfit ht c0
      obtain ⟨i0, hi, hz0, hz1, hz2⟩ := info_parts info_op
      have hS2 : SliceIs OpD.cells 26 w2 (.slice a q cap) l := HS.out.ext H2.out.ext (fun b o n c e hs => HH.out.2.2.2.2.2.1 b o n c (by rw [← e, HQ.out]) hs)
      have ho2 := H2.out.log.o
      have cL0 := H2.out.log.b.c0
      have cL1 := H2.out.log.b.c1
      obtain ⟨v', w', hr, ho, hx, hn'⟩ := append_structs9 (P := Tryz.prog) 24 24 i0 _ _ Tryz.underlying24 hi hz0 hz1 hz2 rfl (by omega) OpD.len OpD.one ho2 hS2 HX.out.1.1 (by unfold maxLen; omega) (by omega) z2
      obtain ⟨sv, hsv⟩ := ho.slv
      subst hsv
      have HR : Hid ((Builtin.append_ #[24, 24] 24 #[vo, .slice a q cap]).run Tryz.prog w2 = .ok (.slice sv.a sv.n sv.cap) w') := Lib.hid hr
      have HN := Lib.hid (H2.out.more hx ho hn' (fun y hy => (HX.out.1.2.2.1 y hy).2))
      have fL1 : w'.frozen? ⟨lb, 1, none⟩ = false := by
        have hl2 := (hx.block lb H2.out.log.b.lt (fun e => tag_ne (tag_own H2.out.log.o e) H2.out.log.b.tag (by decide) rfl)).trans H2.out.log.b
        exact Joins.unfrozen_of_block hl2 1
      have cL2 : w'.cell? ⟨lb, 1, none⟩ = some vo := by
        have hl2 := (hx.block lb H2.out.log.b.lt (fun e => tag_ne (tag_own H2.out.log.o e) H2.out.log.b.tag (by decide) rfl)).trans H2.out.log.b
        exact Joins.cell_of_block hl2 1
      clear ho2 hr ho hx hn' hS2 hi hz0 hz1 hz2
      go_wp2_with fail
      refine (check_any _ 0 _).mono ?_
      rintro e w3 ⟨rfl, rfl⟩
      rw [errO_zero]
      go_wp2_with (at_builtin; refine wpList_append_run rfl _ _ _ rfl rfl rfl HR.out ?_)
      go_ret
      exact .inr ⟨HX.out.1, f, D2, sv.val, HF.out.1, HF.out.2, rfl, HN.out⟩
  · have HT := Lib.hid (LT.of_turned HH.out.1 HH.out.2.1 (Turned.below HH.out.1 hb))
    have G1 := Lib.hid (HH.out.2.2.2.1.below hb)
    have HC := Lib.hid hc
    clear hb hc
    unfold atErrO09
    go_wp2_with fail
    refine (number_err s n _ G1.out).mono ?_
    rintro e w2 ⟨rfl, hb2⟩
    have H2 := Lib.hid (HT.out.below hb2)
    clear hb2
    go_wp2_with fail
    go_ret
    exact .inl ⟨n, rfl, (by rcases HC.out with h | h | h; exact .inl h; exact .inr (.inl h); exact .inr (.inr (.inl h))), H2.out⟩
def OpPost (base : Nat) (w : World) (D : DSh) (A : DiskA) (e : Ending) (w' : World) : Prop :=
  ∃ lb D' A' vo L, e = .returned (.tuple #[.pointer (some ⟨lb, 0, none⟩), .int .i64 0]) ∧ OpenA A A' L ∧ Turned base w D A w' D' A' ∧ LogIs w.heap.size w' D'.pb lb vo L L.length
set_option maxRecDepth 20000 in
set_option maxHeartbeats 2000000 in
theorem lopen_any (hd : DiskIs base w D A) (hbw : base ≤ w.heap.size) {N : Nat} (hsm : A.Small N) (hN : N ≤ 800000) (hfl : A.files.length ≤ 7) (hg : ErrTy w) (h0 : 0 < base) :
    Calls Tryz.prog 32 #[.pointer (some ⟨D.pb, 0, none⟩)] w fun e w' => OpPost base w D A e w' := by
  have hb1 : Below w.heap.size w (w.alloc (.cells #[.pointer (some ⟨D.pb, 0, none⟩), .slice none 0 0, .int .i64 0] 133)) := (Below.refl _ _).alloc (Nat.le_refl _) _
  have hn1 := heap_new8 w (.cells #[.pointer (some ⟨D.pb, 0, none⟩), .slice none 0 0, .int .i64 0] 133)
  obtain ⟨w1, hw1⟩ : ∃ w1, w.alloc (.cells #[.pointer (some ⟨D.pb, 0, none⟩), .slice none 0 0, .int .i64 0] 133) = w1 := ⟨_, rfl⟩
  rw [hw1] at hb1 hn1
  have hL : LogIs base w1 D.pb w.heap.size (.slice none 0 0) [] 0 := ⟨hn1, Own.nil, hbw, fun x hx => (by cases hx)⟩
  have HH := Lib.hid (And.intro hd (And.intro hsm (And.intro hg (And.intro hb1 hL))))
  have HW := Lib.hid hw1
  have z1 : base ≤ w1.heap.size := Nat.le_trans hbw hb1.size
  clear hd hsm hg hb1 hn1 hL hw1
  go_enter Tryz.func32, Tryz.ntmps32
  go_wp2_with fail
  rw [HW.out]
  refine (open_any (HH.out.1.below HH.out.2.2.2.1) z1 HH.out.2.1 hN hfl w.heap.size HH.out.2.2.2.2 (HH.out.2.2.1.below HH.out.2.2.2.1) h0).mono ?_
  rintro e w2 hp
  unfold OpenPost at hp
  obtain ⟨rfl, D2, A2, vo, L, hop, ht⟩ := hp
  obtain ⟨sv, hsv⟩ := ht.log.o.slv
  subst hsv
  have HT := Lib.hid (And.intro hop ht)
  have c1 : w2.cell? ⟨w.heap.size, 1, none⟩ = some (.slice sv.a sv.n sv.cap) := ht.log.b.c1
  have c2 := ht.log.b.c2
  have f2 : w2.frozen? ⟨w.heap.size, 2, none⟩ = false := Joins.unfrozen_of_block ht.log.b 2
  have hnl : Hid (sv.n = L.length) := Lib.hid (Own.nlen ht.log.o OpD.len).1
  clear hop ht
  go_wp2_with fail
  go_ret2
  have hx := HT.out.2.set2 (sv.n : Int)
  rw [hnl.out] at hx ⊢
  refine ⟨w.heap.size, D2, A2, sv.val, L, rfl, HT.out.1, ⟨hx.disk, hx.pb, ?_, fun b hb => (hx.foot b hb).imp id (fun h => Nat.le_trans HH.out.2.2.2.1.size h)⟩, hx.log.b, hx.log.o.raise (fun b hb => ?_), Nat.le_refl _, hx.log.wf⟩
  · refine (Ext.of_below HH.out.2.2.2.1).andThen hx.ext (fun i hi hs => ?_)
    rcases hs with hs | hs | hs
    · exact hs
    · omega
    · cases hs
  · rcases hx.own b hb with e | e
    · cases e
    · exact Nat.le_trans HH.out.2.2.2.1.size e
end
structure LeftS where
  out : List UInt8
  fin : Nat
  n : Nat
def leftStep (at_ : Int) (ks : List Bool) (torn : Int) (s : LeftS) (p : PcA) : LeftS :=
  if at_ < p.came then s
  else if p.safe ≠ 0 ∧ p.safe ≤ at_ then ⟨s.out ++ p.bs, (s.out ++ p.bs).length, s.n⟩
  else if ks[s.n]? = some true then ⟨s.out ++ p.bs, s.out.length + pickN torn (p.bs.length + 1), s.n + 1⟩
  else ⟨s.out ++ List.replicate p.bs.length 0, s.fin, s.n + 1⟩
def leftS (at_ : Int) (ks : List Bool) (torn : Int) (ps : List PcA) : LeftS := ps.foldl (leftStep at_ ks torn) ⟨[], 0, 0⟩
def leftA (at_ : Int) (ks : List Bool) (torn : Int) (ps : List PcA) : List UInt8 := (leftS at_ ks torn ps).out.take (leftS at_ ks torn ps).fin
section
variable {base : Nat} {w w' : World} {D : DSh} {A : DiskA}
end
end Go.Proofs.YtgmdimbiipemhaaGreatDoor
namespace Go.Proofs.YtgmdimbiipemhaaGreatDoor
open Go.RowKit
section
variable {K V : Type} [DecidableEq K] {ek : K → Value} {ev : V → Value}
end
end Go.Proofs.YtgmdimbiipemhaaGreatDoor
namespace Go.Proofs.YtgmdimbiipemhaaGreatDoor
open Go.RowKit Go.Deep
structure DiskA.Hist (A : DiskA) : Prop where
  fold : A.files = A.chg.foldl (fun l c => applyC c l) A.base
  at_ : ∀ c ∈ A.chg, c.at_ ≤ A.now
  syn : ∀ n ∈ A.syn, n ≤ A.now
  pcs : ∀ f ∈ A.ids, ∀ p ∈ A.fs f, p.came ≤ A.now ∧ p.safe ≤ A.now
theorem hist0 : disk0.Hist := ⟨rfl, fun c hc => (by cases hc), fun c hc => (by cases hc), fun c hc => (by cases hc)⟩
theorem DiskA.Hist.step {A : DiskA} (h : A.Hist) (c : Chg) : (stepA c A).Hist := by
  refine ⟨?_, fun d hd => ?_, fun n hn => ?_, fun f hf p hp => ?_⟩
  · simp only [stepA]
    rw [List.foldl_append, ← h.fold]
    rfl
  · simp only [stepA] at hd ⊢
    rcases List.mem_append.1 hd with hd | hd
    · have := h.at_ d hd; omega
    · simp at hd; subst hd; simp
  · have := h.syn n hn; simp only [stepA]; omega
  · have := h.pcs f hf p hp; simp only [stepA]; omega
theorem synP_le {n m : Int} {p : PcA} (h : p.came ≤ n ∧ p.safe ≤ n) (hm : n ≤ m) : (synP m p).came ≤ m ∧ (synP m p).safe ≤ m := by
  unfold synP
  split
  · exact ⟨by dsimp only; omega, by dsimp only; omega⟩
  · exact ⟨by omega, by omega⟩
theorem DiskA.Hist.sync {A : DiskA} (h : A.Hist) (f : Nat) : (syncA f A).Hist := by
  refine ⟨h.fold, fun d hd => ?_, fun n hn => ?_, fun g hg p hp => ?_⟩
  · have := h.at_ d hd; simp only [syncA]; omega
  · have := h.syn n hn; simp only [syncA]; omega
  · simp only [syncA] at hp ⊢
    split at hp
    · rename_i e
      obtain ⟨q, hq, rfl⟩ := List.mem_map.1 hp
      rw [← e] at hq
      exact synP_le (h.pcs g hg q hq) (by omega)
    · have := h.pcs g hg p hp; omega
theorem DiskA.Hist.syns {A : DiskA} (h : A.Hist) : (synA A).Hist := by
  refine ⟨h.fold, fun d hd => ?_, fun n hn => ?_, fun g hg p hp => ?_⟩
  · have := h.at_ d hd; simp only [synA]; omega
  · simp only [synA] at hn ⊢
    rcases List.mem_append.1 hn with hn | hn
    · have := h.syn n hn; omega
    · simp at hn; omega
  · have := h.pcs g hg p hp; simp only [synA]; omega
theorem DiskA.Hist.app {A : DiskA} (h : A.Hist) (h0 : 0 ≤ A.now) (f : Nat) (bs : List UInt8) : (appA f bs A).Hist := by
  refine ⟨h.fold, fun d hd => ?_, fun n hn => ?_, fun g hg p hp => ?_⟩
  · have := h.at_ d hd; simp only [appA]; omega
  · have := h.syn n hn; simp only [appA]; omega
  · simp only [appA] at hp ⊢
    split at hp
    · rename_i e
      rcases List.mem_append.1 hp with hp | hp
      · rw [← e] at hp; have := h.pcs g hg p hp; omega
      · simp at hp; subst hp; exact ⟨by simp, by simp; omega⟩
    · have := h.pcs g hg p hp; omega
theorem DiskA.Hist.born {A : DiskA} (h : A.Hist) (fb : Nat) : (bornA fb A).Hist := by
  refine ⟨h.fold, h.at_, h.syn, fun g hg p hp => ?_⟩
  simp only [bornA] at hp hg ⊢
  split at hp
  · cases hp
  · rename_i e
    exact h.pcs g ((List.mem_cons.1 hg).resolve_left e) p hp
theorem upto_all {safe at_ : Int} : ∀ {cs : List Chg} {op : Nat} {m : List (ByteArray × Nat)}, (∀ c ∈ cs, ¬ safe < c.at_) → upto safe at_ cs op m = cs.foldl (fun l c => applyC c l) m
  | [], _, _, _ => rfl
  | c :: cs, op, m, h => by
    unfold upto
    rw [if_neg (h c List.mem_cons_self)]
    exact upto_all (fun d hd => h d (List.mem_cons_of_mem _ hd))
theorem safeF_last (syn : List Int) {n at_ : Int} (h : n ≤ at_) : safeF (syn ++ [n]) at_ = n := by
  unfold safeF
  rw [List.foldl_append]
  simp [h]
theorem safeG_eq {a b : Int} : ∀ (syn : List Int) (z : Int), (∀ n ∈ syn, n ≤ a ∧ n ≤ b) → syn.foldl (fun s n => if n ≤ a then n else s) z = syn.foldl (fun s n => if n ≤ b then n else s) z
  | [], _, _ => rfl
  | n :: syn, z, h => by
    rw [List.foldl_cons, List.foldl_cons, if_pos (h n (by simp)).1, if_pos (h n (by simp)).2]
    exact safeG_eq syn n (fun m hm => h m (by simp [hm]))
theorem safeF_eq {a b : Int} {syn : List Int} (h : ∀ n ∈ syn, n ≤ a ∧ n ≤ b) : safeF syn a = safeF syn b := safeG_eq syn 0 h
theorem openF_eq {a b s : Int} {cs : List Chg} (h : ∀ c ∈ cs, c.at_ ≤ a ∧ c.at_ ≤ b) : openF cs s a = openF cs s b := by
  unfold openF
  congr 1
  refine List.filter_congr (fun c hc => ?_)
  have := h c hc
  rw [decide_eq_true this.1, decide_eq_true this.2]
theorem upto_eq {a b s : Int} : ∀ {cs : List Chg} {op : Nat} {m : List (ByteArray × Nat)}, (∀ c ∈ cs, c.at_ ≤ a ∧ c.at_ ≤ b) → upto s a cs op m = upto s b cs op m
  | [], _, _, _ => rfl
  | c :: cs, op, m, h => by
    have h1 := h c (by simp)
    unfold upto
    rw [upto_eq (op := op - 1) (fun d hd => h d (by simp [hd])), upto_eq (op := op) (fun d hd => h d (by simp [hd]))]
    have e1 : (op = 0 ∨ a < c.at_) ↔ (op = 0 ∨ b < c.at_) := by constructor <;> intro h2 <;> rcases h2 with h2 | h2 <;> omega
    simp only [e1]
def NamesIn (A : DiskA) (P : List (List (ByteArray × Nat))) : Prop := ∀ nm, namesAtA A A.now nm ∈ P
theorem NamesIn.syn_ {A : DiskA} (hh : A.Hist) : NamesIn (synA A) [A.files] := by
  intro nm
  have hx := hh.syns
  have hsf : safeF (synA A).syn (synA A).now = (synA A).now := safeF_last A.syn (Int.le_refl _)
  unfold namesAtA
  rw [hsf, upto_all (fun c hc => by have := hx.at_ c hc; omega)]
  exact List.mem_singleton.2 hx.fold.symm
theorem NamesIn.now {A A' : DiskA} {P : List (List (ByteArray × Nat))} (h : NamesIn A P) (hh : A.Hist) (h1 : A'.chg = A.chg) (h2 : A'.syn = A.syn) (h3 : A'.base = A.base) (h4 : A.now ≤ A'.now) : NamesIn A' P := by
  intro nm
  have := h nm
  unfold namesAtA at this ⊢
  rw [h1, h2, h3, safeF_eq (b := A.now) (fun n hn => ⟨by have := hh.syn n hn; omega, hh.syn n hn⟩), openF_eq (b := A.now) (fun c hc => ⟨by have := hh.at_ c hc; omega, hh.at_ c hc⟩), upto_eq (b := A.now) (fun c hc => ⟨by have := hh.at_ c hc; omega, hh.at_ c hc⟩)]
  exact this
structure LogP (ps : List PcA) (ld lu : List (List OpD)) : Prop where
  split : ∃ ds us, ps = ds ++ us ∧ (∀ p ∈ ds, p.safe ≠ 0) ∧ bytesP ds = frmsL ld ∧ us.map (·.bs) = lu.map frmL ∧ ∀ p ∈ us, p.safe = 0
  gd : ∀ l ∈ ld, GoodB l
  gu : ∀ l ∈ lu, GoodB l
theorem LogP.bytes {ps : List PcA} {ld lu : List (List OpD)} (h : LogP ps ld lu) : bytesP ps = frmsL (ld ++ lu) := by
  obtain ⟨ds, us, rfl, _, h2, h3, _⟩ := h.split
  have e : ∀ us : List PcA, bytesP us = (us.map (·.bs)).flatten := fun us => by unfold bytesP; rw [List.flatMap_def]
  have e2 : bytesP (ds ++ us) = bytesP ds ++ bytesP us := by unfold bytesP; rw [List.flatMap_append]
  rw [e2, h2, e us, h3, frmsL_append]
  congr 1
theorem LogP.good {ps : List PcA} {ld lu : List (List OpD)} (h : LogP ps ld lu) : ∀ l ∈ ld ++ lu, GoodB l := fun l hl => by
  rcases List.mem_append.1 hl with hl | hl
  · exact h.gd l hl
  · exact h.gu l hl
theorem LogP.app {ps : List PcA} {ld lu : List (List OpD)} (h : LogP ps ld lu) {l : List OpD} (hl : GoodB l) (n : Int) : LogP (ps ++ [⟨frmL l, n, 0⟩]) ld (lu ++ [l]) := by
  obtain ⟨ds, us, rfl, h1, h2, h3, h4⟩ := h.split
  refine ⟨⟨ds, us ++ [⟨frmL l, n, 0⟩], by rw [List.append_assoc], h1, h2, by simp [h3], fun p hp => ?_⟩, h.gd, fun m hm => ?_⟩
  · rcases List.mem_append.1 hp with hp | hp
    · exact h4 p hp
    · rw [List.mem_singleton.1 hp]
  · rcases List.mem_append.1 hm with hm | hm
    · exact h.gu m hm
    · rw [List.mem_singleton.1 hm]; exact hl
theorem synP_safe {n : Int} (hn : n ≠ 0) (p : PcA) : (synP n p).safe ≠ 0 := by
  unfold synP
  split
  · exact hn
  · rename_i e; exact e
theorem LogP.sync {ps : List PcA} {ld lu : List (List OpD)} (h : LogP ps ld lu) {n : Int} (hn : n ≠ 0) : LogP (ps.map (synP n)) (ld ++ lu) [] :=
  ⟨⟨ps.map (synP n), [], by simp, fun p hp => by obtain ⟨q, _, rfl⟩ := List.mem_map.1 hp; exact synP_safe hn q, by rw [bytesP_syn, h.bytes], rfl, fun p hp => (by cases hp)⟩, h.good, fun l hl => (by cases hl)⟩
theorem LogP.made {ls : List (List OpD)} (hg : ∀ l ∈ ls, GoodB l) {a n : Int} (hn : n ≠ 0) : LogP [⟨frmsL ls, a, n⟩] ls [] :=
  ⟨⟨[⟨frmsL ls, a, n⟩], [], rfl, fun p hp => by rw [List.mem_singleton.1 hp]; exact hn, by simp [bytesP], rfl, fun p hp => (by cases hp)⟩, hg, fun l hl => (by cases hl)⟩
def FileOut (A : DiskA) (f : Nat) (L : List OpD) (S : Nat → Prop) : Prop := ∀ ks torn, ∃ k, k ≤ L.length ∧ S k ∧ (logL (leftA A.now ks torn (A.fs f))).flatten = L.take k
def TwoN (m : List (ByteArray × Nat)) : Prop := (m.map (·.1)).Nodup ∧ ∀ n f, aget m n = some f → n = nLog ∨ n = nNew
theorem nLog_ne : nLog ≠ nNew := by decide
theorem TwoN.step {m : List (ByteArray × Nat)} (h : TwoN m) (c : Chg) (hc : c.f ≠ none → c.name = nLog ∨ c.name = nNew) : TwoN (applyC c m) := by
  refine ⟨applyC_nodup c m h.1, fun n f hn => ?_⟩
  rw [aget_applyC c m h.1] at hn
  cases hf : c.f with
  | none =>
    rw [hf] at hn
    dsimp only at hn
    split at hn
    · cases hn
    · exact h.2 n f hn
  | some g =>
    rw [hf] at hn
    dsimp only at hn
    split at hn
    · rename_i e; rw [e]; exact hc (by rw [hf]; simp)
    · split at hn
      · cases hn
      · exact h.2 n f hn
structure OutD (A : DiskA) (F : List Nat) (L : List OpD) (S : Nat → Prop) : Prop where
  hist : A.Hist
  now : 0 ≤ A.now
  inj : A.Inj
  sub : ∀ f ∈ F, f ∈ A.ids
  ex : ∃ P, NamesIn A P ∧ ∀ m ∈ P, TwoN m ∧ ∃ f, aget m nLog = some f ∧ f ∈ F ∧ FileOut A f L S
structure St9 (A : DiskA) (F : List Nat) (f : Nat) (L : List OpD) (S : Nat → Prop) : Prop where
  d : OutD A F L S
  two : TwoN A.files
  lg : aget A.files nLog = some f
  mem : f ∈ F
  out : FileOut A f L S
section
variable {A : DiskA} {F : List Nat} {f fb : Nat} {L : List OpD} {S : Nat → Prop}
theorem rmA_inj (hi : A.Inj) : (rmA A).Inj := by
  unfold rmA
  split
  · exact hi
  · exact hi.step _ (fun g hg => (by cases hg))
theorem rmA_now (A : DiskA) : A.now ≤ (rmA A).now := by
  unfold rmA
  split
  · exact Int.le_refl _
  · simp only [stepA]; omega
theorem rmA_two (h : TwoN A.files) : TwoN (rmA A).files := by
  unfold rmA
  split
  · exact h
  · exact h.step ⟨0, ⟨#[]⟩, nNew, none⟩ (fun e => absurd rfl e)
theorem rmA_hist (h : A.Hist) : (rmA A).Hist := by
  unfold rmA
  split
  · exact h
  · exact h.step _
theorem an1_inj (hi : A.Inj) (hf : fb ∉ A.ids) : (an1 fb A).Inj := by
  have h1 := rmA_inj hi
  have h2 : fb ∉ (rmA A).ids := by rw [rmA_ids]; exact hf
  exact (h1.born fb).step _ (fun g hg => by
    cases hg
    exact ⟨⟨List.mem_cons_self, rightN_new⟩, fun n hn => absurd (h1.ids n _ hn) h2⟩)
theorem anew_fs (fb : Nat) (bs : List UInt8) (A : DiskA) : ∃ a n : Int, (anewA fb bs A).fs fb = [synP n ⟨bs, a, 0⟩] ∧ n = (appA fb bs (an1 fb A)).now + 1 ∧ a = (an1 fb A).now + 1 := by
  refine ⟨_, _, ?_, rfl, rfl⟩
  show (syncA fb (appA fb bs (an1 fb A))).fs fb = _
  simp only [syncA, appA, if_true, an1_fs, List.nil_append, List.map_cons, List.map_nil]
theorem an1_now (fb : Nat) (A : DiskA) : A.now + 1 ≤ (an1 fb A).now := by
  have := rmA_now A
  show A.now + 1 ≤ (rmA A).now + 1
  omega
structure Steady (A : DiskA) (f : Nat) (ld lu : List (List OpD)) : Prop where
  hist : A.Hist
  now : 0 ≤ A.now
  inj : A.Inj
  names : NamesIn A [A.files]
  two : TwoN A.files
  lg : aget A.files nLog = some f
  nn : aget A.files nNew = none
  pcs : LogP (A.fs f) ld lu
theorem Steady.app {ld lu : List (List OpD)} (h : Steady A f ld lu) {l : List OpD} (hl : GoodB l) : Steady (appA f (frmL l) A) f ld (lu ++ [l]) := by
  have hn := h.now
  refine ⟨h.hist.app h.now f _, by simp only [appA]; omega, ⟨h.inj.nd, h.inj.ids, h.inj.one, h.inj.rt⟩, h.names.now h.hist rfl rfl rfl (by simp only [appA]; omega), h.two, h.lg, h.nn, ?_⟩
  simp only [appA, if_true]
  exact h.pcs.app hl _
theorem Steady.sync {ld lu : List (List OpD)} (h : Steady A f ld lu) : Steady (syncA f A) f (ld ++ lu) [] := by
  have hn := h.now
  refine ⟨h.hist.sync f, by simp only [syncA]; omega, ⟨h.inj.nd, h.inj.ids, h.inj.one, h.inj.rt⟩, h.names.now h.hist rfl rfl rfl (by simp only [syncA]; omega), h.two, h.lg, h.nn, ?_⟩
  simp only [syncA, if_true]
  exact h.pcs.sync (by omega)
theorem Steady.of_syn {ld lu : List (List OpD)} (h1 : A.Hist) (h2 : 0 ≤ A.now) (h3 : A.Inj) (h4 : TwoN A.files) (h5 : aget A.files nLog = some f) (h6 : aget A.files nNew = none) (h7 : LogP (A.fs f) ld lu) : Steady (synA A) f ld lu :=
  ⟨h1.syns, by simp only [synA]; omega, ⟨h3.nd, h3.ids, h3.one, h3.rt⟩, NamesIn.syn_ h1, h4, h5, h6, h7⟩
theorem synP_made (bs : List UInt8) (a n : Int) : synP n ⟨bs, a, 0⟩ = ⟨bs, a, n⟩ := rfl
theorem anew_steady {ms : List (List OpD)} (h1 : A.Hist) (h2 : 0 ≤ A.now) (h3 : A.Inj) (h4 : TwoN A.files) (hf : fb ∉ A.ids) (hg : ∀ m ∈ ms, GoodB m) : Steady (anewA fb (frmsL ms) A) fb ms [] := by
  have hi := an1_inj h3 hf
  have hr := rmA_ids A
  have hn1 := an1_now fb A
  obtain ⟨a, n, e1, e2, e3⟩ := anew_fs fb (frmsL ms) A
  have hh1 : (an1 fb A).Hist := ((rmA_hist h1).born fb).step _
  have hh2 : (an2 fb (frmsL ms) A).Hist := ((hh1.app (by omega) fb _).sync fb).syns
  have ht1 : TwoN (an1 fb A).files := (rmA_two h4).step ⟨0, nNew, ⟨#[]⟩, some fb⟩ (fun _ => .inr rfl)
  have hnow2 : 0 ≤ (an2 fb (frmsL ms) A).now := by show 0 ≤ (an1 fb A).now + 1 + 1 + 1; omega
  have hi2 : (an2 fb (frmsL ms) A).Inj := ⟨hi.nd, hi.ids, hi.one, hi.rt⟩
  have hgn : aget (an2 fb (frmsL ms) A).files nNew = some fb := an1_get fb A
  refine Steady.of_syn (hh2.step _) (by simp only [stepA]; omega) (hi2.step _ (fun g hg' => by cases hg'; exact ⟨⟨hi2.ids _ _ hgn, rightN_log⟩, fun n hn => hi2.one n _ _ hn hgn⟩)) (ht1.step ⟨0, nLog, nNew, some fb⟩ (fun _ => .inl rfl)) ?_ ?_ ?_
  · show aget (applyC ⟨0, nLog, nNew, some fb⟩ (an1 fb A).files) nLog = some fb
    rw [aget_applyC _ _ hi.nd]
    dsimp only
    rw [if_pos rfl]
  · show aget (applyC ⟨0, nLog, nNew, some fb⟩ (an1 fb A).files) nNew = none
    rw [aget_applyC _ _ hi.nd]
    dsimp only
    rw [if_neg (fun e => nLog_ne e.symm), if_pos rfl]
  · show LogP ((anewA fb (frmsL ms) A).fs fb) ms []
    rw [e1, synP_made]
    exact LogP.made hg (by rw [e2]; show (an1 fb A).now + 1 + 1 ≠ 0; omega)
theorem OpenA.steady {A' : DiskA} (h : OpenA A A' L) (h1 : A.Hist) (h2 : 0 ≤ A.now) (h3 : A.Inj) (h4 : TwoN A.files) : ∃ f ld, Steady A' f ld [] ∧ ld.flatten = L ∧ (aget A.files nLog = none → ld = []) ∧ ∀ g, aget A.files nLog = some g → ld = logL (bytesP (A.fs g)) := by
  rcases h with ⟨hno, rfl, fb, hf, rfl⟩ | ⟨f, hg, rfl, ⟨hc, fb, hf, rfl⟩ | ⟨hc, hn, rfl⟩⟩
  · have hi := rmA_inj h3
    have hfr : fb ∉ (rmA A).ids := by rw [rmA_ids]; exact hf
    have hnl : aget (rmA A).files nLog = none := by
      unfold rmA
      split
      · exact hno
      · show aget (applyC ⟨0, ⟨#[]⟩, nNew, none⟩ A.files) nLog = none
        rw [aget_applyC _ _ h3.nd]
        dsimp only
        split
        · rfl
        · exact hno
    have hnow := rmA_now A
    refine ⟨fb, [], Steady.of_syn (((rmA_hist h1).born fb).step _) (by show 0 ≤ (rmA A).now + 1; omega) ((hi.born fb).step _ (fun g hg => by cases hg; exact ⟨⟨List.mem_cons_self, rightN_log⟩, fun n hn => absurd (hi.ids n _ hn) hfr⟩)) ((rmA_two h4).step ⟨0, nLog, ⟨#[]⟩, some fb⟩ (fun _ => .inl rfl)) ?_ ?_ ?_, rfl, fun _ => rfl, fun g hg => (by rw [hno] at hg; cases hg)⟩
    · show aget (applyC ⟨0, nLog, ⟨#[]⟩, some fb⟩ (rmA A).files) nLog = some fb
      rw [aget_applyC _ _ hi.nd]
      dsimp only
      rw [if_pos rfl]
    · show aget (applyC ⟨0, nLog, ⟨#[]⟩, some fb⟩ (rmA A).files) nNew = none
      rw [aget_applyC _ _ hi.nd]
      dsimp only
      rw [if_neg (fun e => nLog_ne e.symm)]
      split
      · rfl
      · exact rmA_none h3.nd
    · show LogP ((bornA fb (rmA A)).fs fb) [] []
      simp only [bornA, if_true]
      exact ⟨⟨[], [], rfl, fun p hp => (by cases hp), rfl, rfl, fun p hp => (by cases hp)⟩, fun l hl => (by cases hl), fun l hl => (by cases hl)⟩
  · have hsp := logL_spec (bytesP (A.fs f))
    rw [logN_take]
    refine ⟨fb, logL (bytesP (A.fs f)), anew_steady h1 h2 h3 h4 hf hsp.1, rfl, fun e => (by rw [hg] at e; cases e), fun g hg' => (by rw [hg] at hg'; cases hg'; rfl)⟩
  · have hsp := logL_spec (bytesP (A.fs f))
    have hall : bytesP (A.fs f) = frmsL (logL (bytesP (A.fs f))) := by
      have := hsp.2.1
      rw [hc, List.drop_length, List.append_nil] at this
      exact this
    refine ⟨f, logL (bytesP (A.fs f)), Steady.of_syn (h1.sync f) (by show 0 ≤ A.now + 1; omega) ⟨h3.nd, h3.ids, h3.one, h3.rt⟩ h4 hg hn ?_, rfl, fun e => (by rw [hg] at e; cases e), fun g hg' => (by rw [hg] at hg'; cases hg'; rfl)⟩
    show LogP ((syncA f A).fs f) (logL (bytesP (A.fs f))) []
    simp only [syncA, if_true]
    exact ⟨⟨_, [], (List.append_nil _).symm, fun p hp => (by obtain ⟨q, _, rfl⟩ := List.mem_map.1 hp; exact synP_safe (by omega) q), (by rw [bytesP_syn]; exact hall), rfl, fun p hp => (by cases hp)⟩, hsp.1, fun l hl => (by cases hl)⟩
end
def oneOp : OpD := ⟨⟨1, 0⟩, 0, 0, 0, 0, 0, 0, 0, 0, 1, ⟨0, 0⟩, 2, 97, ⟨0, 0⟩, noText, noText, noText, ⟨0, 0⟩, false, ⟨0, 0⟩, false⟩
theorem oneOp_right : oneOp.right = true := by kernel_rfl
theorem oneOp_wf : oneOp.wf := by
  refine ⟨⟨by decide, by decide, by decide⟩, fun c hc => ?_⟩
  unfold fld oneOp
  split <;> decide
theorem putB_pos (n : Nat) : 1 ≤ (putB n).length := List.length_pos_iff.2 (putB_ne n)
theorem runsB_two (x : Int) (l : List Int) : 2 ≤ (runsB (x :: l)).length := by
  rw [runsB, List.length_append, List.length_append]
  have := putB_pos (leadN x l + 1)
  have := putB_pos (zigN x)
  omega
theorem numsB_two (o : OpD) (l : List OpD) : ∀ n, 2 * n ≤ (numsB (o :: l) n).length
  | 0 => by omega
  | n + 1 => by
    have ih := numsB_two o l n
    rw [numsB_succ, List.length_append]
    have : 2 ≤ (colB (o :: l) n).length := by
      unfold colB
      split
      · exact runsB_two _ _
      · exact runsB_two _ _
    omega
theorem oneOp_enc : 30 < (encB [oneOp]).length ∧ ∃ r, encB [oneOp] = 1 :: r := by
  have h := numsB_two oneOp [] 21
  rw [encB_eq]
  have e : putB ([oneOp] : List OpD).length = [1] := by
    rw [putB_lt (by decide)]
    rfl
  rw [e]
  refine ⟨?_, _, rfl⟩
  rw [List.length_append, List.length_append]
  omega
end Go.Proofs.YtgmdimbiipemhaaGreatDoor
namespace Go.Proofs.YtgmdimbiipemhaaGreatDoor
theorem putB_self {n : Nat} (h : 0 < n) (hl : n < 18446744073709551616) : (putB n).length ≤ n := by
  by_cases h1 : n < 128
  · rw [putB_lt h1]; simp; omega
  · have := (putB_len n 10 (by omega)).2 (by omega)
    omega
theorem runsB_size {k : Nat} : ∀ (n : Nat) (l : List Int), l.length = n → n < 18446744073709551615 → (∀ x ∈ l, (putB (zigN x)).length ≤ k) → (runsB l).length ≤ (k + 1) * l.length := by
  intro n
  induction n using Nat.strongRecOn with
  | ind n ih =>
    intro l hn hl hz
    cases l with
    | nil => simp [runsB]
    | cons x l =>
      have hle := leadN_le x l
      rw [List.length_cons] at hn
      rw [runsB, List.length_append, List.length_append, List.length_cons]
      have h1 : (putB (leadN x l + 1)).length ≤ leadN x l + 1 := putB_self (by omega) (by omega)
      have h2 : (putB (zigN x)).length ≤ k := hz x (by simp)
      have h3 := ih (l.drop (leadN x l)).length (by rw [List.length_drop]; omega) _ rfl (by rw [List.length_drop]; omega) (fun y hy => hz y (List.mem_cons_of_mem _ (List.mem_of_mem_drop hy)))
      rw [List.length_drop] at h3
      obtain ⟨d, hd⟩ : ∃ d, l.length = leadN x l + d := ⟨l.length - leadN x l, by omega⟩
      rw [hd, Nat.add_sub_cancel_left] at h3
      rw [hd]
      have e1 : (k + 1) * (leadN x l + d + 1) = (k + 1) * d + (k + 1) * leadN x l + (k + 1) := by rw [Nat.mul_add, Nat.mul_add]; omega
      have e2 : leadN x l ≤ (k + 1) * leadN x l := by rw [Nat.add_mul]; omega
      omega
theorem boolsF_size : ∀ (m : Nat) (v : Bool) (l : List Bool), 2 * l.length + (if l.head? = some v then 0 else 1) = m → l.length < 18446744073709551616 → (boolsF v l).length ≤ l.length + (if l.head? = some v then 0 else 1) := by
  intro m
  induction m using Nat.strongRecOn with
  | ind m ih =>
    intro v l hm hl
    by_cases h : l = []
    · subst h; rw [boolsF_nil]; simp
    · rw [boolsF_cons h, List.length_append]
      have h1 := bools_meas v h
      have hle := leadN_le v l
      have h2 := ih _ (by rw [← hm]; exact h1) (!v) (l.drop (leadN v l)) rfl (by rw [List.length_drop]; omega)
      rw [List.length_drop] at h2
      rw [List.length_drop] at h1
      by_cases h5 : l.head? = some v
      · have h6 : 0 < leadN v l := by
          cases l with
          | nil => exact absurd rfl h
          | cons x l =>
            rw [List.head?_cons] at h5
            rw [leadN, if_pos (Option.some.inj h5)]
            omega
        have h3 := putB_self h6 (by omega)
        rw [if_pos h5]
        rcases head_not (leadN_drop v l) with h4 | h4
        · rw [h4, boolsF_nil]
          simp only [List.length_nil]
          omega
        · rw [if_pos h4] at h2
          omega
      · have h6 : leadN v l = 0 := by
          cases l with
          | nil => exact absurd rfl h
          | cons x l =>
            rw [List.head?_cons] at h5
            rw [leadN, if_neg (fun e => h5 (congrArg some e))]
        rw [if_neg h5]
        rw [h6] at h2 ⊢
        have h3 : (putB 0).length = 1 := by rw [putB_lt (by omega)]; rfl
        rw [h3]
        rcases head_not (leadN_drop v l) with h4 | h4
        · rw [h6] at h4
          exact absurd (by simpa using h4) h
        · rw [h6] at h4
          rw [if_pos h4] at h2
          omega
theorem boolsB_size {l : List Bool} (hl : l.length < 18446744073709551616) : (boolsB l).length ≤ l.length + 1 := by
  have := boolsF_size _ false l rfl hl
  unfold boolsB
  split at this <;> omega
theorem right_in {s : St} (h : rightB s = true) : 0 ≤ s.n ∧ s.n ≤ 1048576 ∧ 0 ≤ s.r ∧ s.r ≤ 1048576 := by
  have := of_decide_eq_true h
  omega
theorem may_in {o : OpD} {s : St} (h : o.may s = true) : 0 ≤ s.n ∧ s.n ≤ 1048576 ∧ 0 ≤ s.r ∧ s.r ≤ 1048576 := by
  unfold OpD.may at h
  rw [Bool.and_eq_true] at h
  exact right_in h.1
def StIn (s : St) : Prop := 0 ≤ s.n ∧ s.n ≤ 1048576 ∧ 0 ≤ s.r ∧ s.r ≤ 1048576
theorem st0_in : StIn ⟨0, 0⟩ := by unfold StIn; simp
theorem fold_min : ∀ (l : List Int) (a : Int), l.foldl min a ≤ a ∧ ∀ x ∈ l, l.foldl min a ≤ x
  | [], a => ⟨Int.le_refl _, fun _ h => by cases h⟩
  | y :: l, a => by
    have h := fold_min l (min a y)
    rw [List.foldl_cons]
    refine ⟨by omega, fun x hx => ?_⟩
    rcases List.mem_cons.1 hx with rfl | hx
    · omega
    · exact h.2 x hx
theorem fold_max : ∀ (l : List Int) (a : Int), a ≤ l.foldl max a ∧ ∀ x ∈ l, x ≤ l.foldl max a
  | [], a => ⟨Int.le_refl _, fun _ h => by cases h⟩
  | y :: l, a => by
    have h := fold_max l (max a y)
    rw [List.foldl_cons]
    refine ⟨by omega, fun x hx => ?_⟩
    rcases List.mem_cons.1 hx with rfl | hx
    · omega
    · exact h.2 x hx
theorem right_all {o : OpD} (h : o.right = true) : StIn o.id ∧ (∀ x ∈ o.deps, 0 ≤ x ∧ x ≤ 1048576) ∧ (0 ≤ o.kind ∧ o.kind ≤ 1048576) ∧ StIn o.ref ∧ (0 ≤ o.side ∧ o.side ≤ 1048576) ∧ (0 ≤ o.ch ∧ o.ch ≤ 1048576) ∧ StIn o.under ∧ StIn o.fr ∧ StIn o.tr := by
  unfold OpD.right at h
  simp only [Bool.and_eq_true] at h
  obtain ⟨h1, h2, h3, hk⟩ := h
  have hid := right_in h1
  have hd : ∀ x ∈ o.deps, 0 ≤ x ∧ x ≤ 1048576 := by
    have e2 : ¬ minV o.deps < 0 := by simpa using h2
    have e3 : ¬ o.id.n ≤ mostV o.deps := by simpa using h3
    intro x hx
    have l1 := fold_min o.deps (o.deps.headD 0)
    have l2 := fold_max o.deps (o.deps.headD 0)
    have l3 : minV o.deps ≤ x := l1.2 x hx
    have l4 : x ≤ mostV o.deps := l2.2 x hx
    have := hid.2.1
    omega
  refine ⟨hid, hd, ?_⟩
  unfold OpD.kindOk at hk
  split at hk
  · rename_i e
    rw [Bool.and_eq_true] at hk
    obtain ⟨h4, h5⟩ := hk
    have e5 := of_decide_eq_true h5
    unfold OpD.okI at h4
    simp only [Bool.and_eq_true, Bool.or_eq_true, decide_eq_true_eq] at h4
    have hr : StIn o.ref := by
      rcases h4.1 with h6 | h6
      · rw [h6.2]; exact st0_in
      · exact may_in h6.1
    have hs : 0 ≤ o.side ∧ o.side ≤ 1048576 := by
      rcases h4.1 with h6 | h6
      · have := h6.1; omega
      · rcases h6.2 with h7 | h7 <;> omega
    have hc : 0 ≤ o.ch ∧ o.ch ≤ 1048576 := by
      rcases h4.2 with h6 | h6 <;> omega
    exact ⟨by omega, hr, hs, hc, by rw [← congrArg OpD.under e5]; exact st0_in, by rw [← congrArg OpD.fr e5]; exact st0_in, by rw [← congrArg OpD.tr e5]; exact st0_in⟩
  · split at hk
    · rename_i e
      rw [Bool.and_eq_true] at hk
      obtain ⟨h4, h5⟩ := hk
      have e5 := of_decide_eq_true h5
      exact ⟨by omega, may_in h4, by rw [← congrArg OpD.side e5]; exact (show (0 : Int) ≤ 0 ∧ (0 : Int) ≤ 1048576 from by decide), by rw [← congrArg OpD.ch e5]; exact (show (0 : Int) ≤ 0 ∧ (0 : Int) ≤ 1048576 from by decide), by rw [← congrArg OpD.under e5]; exact st0_in, by rw [← congrArg OpD.fr e5]; exact st0_in, by rw [← congrArg OpD.tr e5]; exact st0_in⟩
    · split at hk
      · rename_i e
        rw [Bool.and_eq_true] at hk
        obtain ⟨h4, h5⟩ := hk
        have e5 := of_decide_eq_true h5
        unfold OpD.okM at h4
        simp only [Bool.and_eq_true, Bool.or_eq_true, decide_eq_true_eq] at h4
        have hu : StIn o.under := by
          rcases h4.1.1.2 with h6 | h6
          · rw [h6]; exact st0_in
          · exact may_in h6
        exact ⟨by omega, may_in h4.1.1.1, by rw [← congrArg OpD.side e5]; exact (show (0 : Int) ≤ 0 ∧ (0 : Int) ≤ 1048576 from by decide), by rw [← congrArg OpD.ch e5]; exact (show (0 : Int) ≤ 0 ∧ (0 : Int) ≤ 1048576 from by decide), hu, by rw [← congrArg OpD.fr e5]; exact st0_in, by rw [← congrArg OpD.tr e5]; exact st0_in⟩
      · split at hk
        · rename_i e
          rw [Bool.and_eq_true] at hk
          obtain ⟨h4, h5⟩ := hk
          have e5 := of_decide_eq_true h5
          unfold OpD.okS at h4
          simp only [Bool.and_eq_true] at h4
          exact ⟨by omega, may_in h4.1.1, by rw [← congrArg OpD.side e5]; exact (show (0 : Int) ≤ 0 ∧ (0 : Int) ≤ 1048576 from by decide), by rw [← congrArg OpD.ch e5]; exact (show (0 : Int) ≤ 0 ∧ (0 : Int) ≤ 1048576 from by decide), by rw [← congrArg OpD.under e5]; exact st0_in, by rw [← congrArg OpD.fr e5]; exact st0_in, by rw [← congrArg OpD.tr e5]; exact st0_in⟩
        · split at hk
          · rename_i e
            rw [Bool.and_eq_true] at hk
            obtain ⟨h4, h5⟩ := hk
            have e5 := of_decide_eq_true h5
            unfold OpD.okK at h4
            simp only [Bool.and_eq_true] at h4
            exact ⟨by omega, by rw [← congrArg OpD.ref e5]; exact st0_in, by rw [← congrArg OpD.side e5]; exact (show (0 : Int) ≤ 0 ∧ (0 : Int) ≤ 1048576 from by decide), by rw [← congrArg OpD.ch e5]; exact (show (0 : Int) ≤ 0 ∧ (0 : Int) ≤ 1048576 from by decide), by rw [← congrArg OpD.under e5]; exact st0_in, may_in h4.1.1.1, may_in h4.1.1.2⟩
          · cases hk
theorem right_fld {o : OpD} (h : o.right = true) (c : Nat) : 0 ≤ fld o c ∧ fld o c ≤ 1048576 := by
  obtain ⟨h1, h2, h3, h4, h5, h6, h7, h8, h9⟩ := right_all h
  unfold StIn at *
  have hd : ∀ x ∈ [o.d0, o.d1, o.d2, o.d3, o.d4, o.d5, o.d6, o.d7], 0 ≤ x ∧ x ≤ 1048576 := h2
  unfold fld
  split
  · exact ⟨h1.1, h1.2.1⟩
  · exact ⟨h1.2.2.1, h1.2.2.2⟩
  · exact hd _ (by simp)
  · exact hd _ (by simp)
  · exact hd _ (by simp)
  · exact hd _ (by simp)
  · exact hd _ (by simp)
  · exact hd _ (by simp)
  · exact hd _ (by simp)
  · exact hd _ (by simp)
  · exact h3
  · exact ⟨h4.1, h4.2.1⟩
  · exact ⟨h4.2.2.1, h4.2.2.2⟩
  · exact h5
  · exact h6
  · exact ⟨h7.1, h7.2.1⟩
  · exact ⟨h7.2.2.1, h7.2.2.2⟩
  · exact ⟨h8.1, h8.2.1⟩
  · exact ⟨h8.2.2.1, h8.2.2.2⟩
  · exact ⟨h9.1, h9.2.1⟩
  · exact ⟨h9.2.2.1, h9.2.2.2⟩
theorem zig_four {x : Int} (h : -2097152 ≤ x ∧ x ≤ 2097152) : (putB (zigN x)).length ≤ 4 := by
  refine (putB_len _ 4 (by omega)).2 ?_
  unfold zigN
  split <;> omega
theorem zig_two {x : Int} (h : 0 ≤ x ∧ x ≤ 64) : (putB (zigN x)).length ≤ 2 := by
  refine (putB_len _ 2 (by omega)).2 ?_
  unfold zigN
  split <;> omega
theorem right_txt {o : OpD} (h : o.right = true) : o.key.size ≤ 64 ∧ o.name.size ≤ 8 ∧ o.value.size ≤ 16 := by
  unfold OpD.right at h
  simp only [Bool.and_eq_true] at h
  obtain ⟨_, _, _, hk⟩ := h
  have hz : noText.size = 0 := rfl
  have key : ∀ p : OpD, p = o → o.key = p.key ∧ o.name = p.name ∧ o.value = p.value := fun p e => by rw [e]; exact ⟨rfl, rfl, rfl⟩
  unfold OpD.kindOk at hk
  split at hk
  · rw [Bool.and_eq_true] at hk
    obtain ⟨h1, h2, h3⟩ := key _ (of_decide_eq_true hk.2)
    rw [h1, h2, h3]
    exact ⟨(show noText.size ≤ 64 by decide), (show noText.size ≤ 8 by decide), (show noText.size ≤ 16 by decide)⟩
  · split at hk
    · rw [Bool.and_eq_true] at hk
      obtain ⟨h1, h2, h3⟩ := key _ (of_decide_eq_true hk.2)
      rw [h1, h2, h3]
      exact ⟨(show noText.size ≤ 64 by decide), (show noText.size ≤ 8 by decide), (show noText.size ≤ 16 by decide)⟩
    · split at hk
      · rw [Bool.and_eq_true] at hk
        obtain ⟨h1, h2, h3⟩ := key _ (of_decide_eq_true hk.2)
        have h4 := hk.1
        unfold OpD.okM keyB at h4
        simp only [Bool.and_eq_true, decide_eq_true_eq] at h4
        refine ⟨h4.2.1.1.2, ?_, ?_⟩
        · rw [h2]; exact (show noText.size ≤ 8 by decide)
        · rw [h3]; exact (show noText.size ≤ 16 by decide)
      · split at hk
        · rw [Bool.and_eq_true] at hk
          obtain ⟨h1, h2, h3⟩ := key _ (of_decide_eq_true hk.2)
          have h4 := hk.1
          unfold OpD.okS nameB valueB at h4
          simp only [Bool.and_eq_true, decide_eq_true_eq] at h4
          refine ⟨?_, h4.1.2.1.2, h4.2.1⟩
          rw [h1]; exact (show noText.size ≤ 64 by decide)
        · split at hk
          · rw [Bool.and_eq_true] at hk
            obtain ⟨h1, h2, h3⟩ := key _ (of_decide_eq_true hk.2)
            have h4 := hk.1
            unfold OpD.okK nameB valueB at h4
            simp only [Bool.and_eq_true, decide_eq_true_eq] at h4
            refine ⟨?_, h4.1.2.1.2, h4.2.1⟩
            rw [h1]; exact (show noText.size ≤ 64 by decide)
          · cases hk
theorem diffsF_small : ∀ (l : List Int) (p : Int), (0 ≤ p ∧ p ≤ 1048576) → (∀ x ∈ l, 0 ≤ x ∧ x ≤ 1048576) → ∀ y ∈ diffsF p l, -2097152 ≤ y ∧ y ≤ 2097152
  | [], _, _, _, y, h => by cases h
  | x :: l, p, hp, hl, y, h => by
    have hx := hl x (by simp)
    rw [diffsF] at h
    rcases List.mem_cons.1 h with rfl | h
    · rw [wrapI_id (by omega) (by omega)]; omega
    · exact diffsF_small l x hx (fun z hz => hl z (by simp [hz])) y h
theorem diffsB_small {l : List Int} (hl : ∀ x ∈ l, 0 ≤ x ∧ x ≤ 1048576) : ∀ y ∈ diffsB l, -2097152 ≤ y ∧ y ≤ 2097152 := by
  cases l with
  | nil => intro y h; cases h
  | cons x l =>
    intro y h
    have hx := hl x (by simp)
    rw [diffsB] at h
    rcases List.mem_cons.1 h with rfl | h
    · omega
    · exact diffsF_small l x hx (fun z hz => hl z (by simp [hz])) y h
theorem numC_small {l : List OpD} (hr : ∀ x ∈ l, x.right = true) (c : Nat) : ∀ y ∈ numC l c, 0 ≤ y ∧ y ≤ 1048576 := fun y hy => by
  obtain ⟨o, ho, rfl⟩ := List.mem_map.1 hy
  exact right_fld (hr o ho) c
theorem colB_size {l : List OpD} (hn : l.length ≤ 200) (hr : ∀ x ∈ l, x.right = true) (c : Nat) : (colB l c).length ≤ 5 * l.length := by
  have hs := numC_small hr c
  have hl : (numC l c).length = l.length := List.length_map _
  unfold colB
  split
  · have := runsB_size (k := 4) _ (diffsB (numC l c)) rfl (by rw [diffsB_length, hl]; omega) (fun x hx => zig_four (diffsB_small hs x hx))
    rw [diffsB_length, hl] at this
    exact this
  · have := runsB_size (k := 4) _ (numC l c) rfl (by rw [hl]; omega) (fun x hx => zig_four (by have := hs x hx; omega))
    rw [hl] at this
    exact this
theorem numsB_size {l : List OpD} (hn : l.length ≤ 200) (hr : ∀ x ∈ l, x.right = true) : ∀ n, (numsB l n).length ≤ 5 * l.length * n
  | 0 => by simp [numsB]
  | n + 1 => by
    have := numsB_size hn hr n
    have h2 := colB_size hn hr n
    rw [numsB_succ, List.length_append, Nat.mul_add, Nat.mul_one]
    omega
theorem catC_size {k c : Nat} : ∀ (l : List OpD), (∀ o ∈ l, (txt o c).size ≤ k) → (catC l c).length ≤ k * l.length
  | [], _ => by simp [catC]
  | o :: l, h => by
    have h1 := h o (by simp)
    have h2 := catC_size l (fun p hp => h p (by simp [hp]))
    have e : catC (o :: l) c = (txt o c).data.toList ++ catC l c := rfl
    rw [e, List.length_append, List.length_cons, Nat.mul_add, Nat.mul_one]
    have : (txt o c).data.toList.length = (txt o c).size := by rw [Array.length_toList]; rfl
    omega
theorem txtcol_size {l : List OpD} (hn : l.length ≤ 200) {k c : Nat} (hk : k ≤ 64) (h : ∀ o ∈ l, (txt o c).size ≤ k) : (runsB (lenC l c) ++ catC l c).length ≤ (3 + k) * l.length := by
  have hl : (lenC l c).length = l.length := List.length_map _
  have h1 := runsB_size (k := 2) _ (lenC l c) rfl (by rw [hl]; omega) (fun x hx => by
    obtain ⟨o, ho, rfl⟩ := List.mem_map.1 hx
    have := h o ho
    exact zig_two (by omega))
  have h2 := catC_size l h
  rw [List.length_append, Nat.add_mul]
  rw [hl] at h1
  omega
theorem encB_size {l : List OpD} (hn : l.length ≤ 200) (hr : ∀ x ∈ l, x.right = true) : (encB l).length ≤ 204 * l.length + 4 := by
  have h0 : (putB l.length).length ≤ 2 := (putB_len _ 2 (by omega)).2 (by omega)
  have h1 := numsB_size hn hr 21
  have h2 : ∀ c, (boolsB (truC l c)).length ≤ l.length + 1 := fun c => by
    have hl : (truC l c).length = l.length := List.length_map _
    have := boolsB_size (l := truC l c) (by rw [hl]; omega)
    rw [hl] at this
    exact this
  have a0 := h2 0
  have a1 := h2 1
  have b0 := txtcol_size hn (k := 64) (c := 0) (by omega) (fun o ho => (right_txt (hr o ho)).1)
  have b1 := txtcol_size hn (k := 8) (c := 1) (by omega) (fun o ho => (right_txt (hr o ho)).2.1)
  have b2 := txtcol_size hn (k := 16) (c := 2) (by omega) (fun o ho => (right_txt (hr o ho)).2.2)
  have e1 : trusB l 2 = boolsB (truC l 0) ++ boolsB (truC l 1) := by simp [trusB, List.range_succ]
  have e2 : txtsB l 3 = (runsB (lenC l 0) ++ catC l 0) ++ ((runsB (lenC l 1) ++ catC l 1) ++ (runsB (lenC l 2) ++ catC l 2)) := by simp [txtsB, List.range_succ]
  unfold encB
  rw [e1, e2]
  simp only [List.length_append] at b0 b1 b2 h1 a0 a1 h0 ⊢
  omega
end Go.Proofs.YtgmdimbiipemhaaGreatDoor
namespace Go.Proofs.YtgmdimbiipemhaaGreatDoor
open Go.RowKit Go.Deep
def oneN (n : Int) : OpD := ⟨⟨n, 0⟩, 0, 0, 0, 0, 0, 0, 0, 0, 1, ⟨0, 0⟩, 2, 97, ⟨0, 0⟩, noText, noText, noText, ⟨0, 0⟩, false, ⟨0, 0⟩, false⟩
set_option maxRecDepth 20000 in
theorem one9_any (n : Int) (w : World) : Calls Tryz.prog 44 #[.int .i64 n] w fun e w' => e = .returned (oneN n).val ∧ Below w.heap.size w w' := by
  have hst := run_store_fresh (P := Tryz.prog) op_ty (W := w) (z := zeroOp.cells.toArray) (cs := (oneN n).cells) rfl (OpD.len (oneN n)) (OpD.one (oneN n))
  have hr := (OB.new w (oneN n)).whole
  have HS := Lib.hid hst
  have HR := Lib.hid hr
  have HB : Hid (Below w.heap.size w (w.alloc (.cells (oneN n).cells.toArray 68))) := Lib.hid ((Below.refl _ _).alloc (Nat.le_refl _) _)
  clear hst hr
  unfold OpD.val
  go_enter Tryz.func44, Tryz.ntmps44
  go_wp2_with (refine wpList_store_run (T := 68) (v := .agg (OpD.cells (oneN n)).toArray) rfl rfl rfl rfl HS.out ?_)
  refine bodyPost_ret (v := .agg (oneN n).cells.toArray) (by rw [results_cell8 rfl]; first | exact HR.out | (have hr := HR.out; go_simp; exact hr)) rfl ?_
  exact ⟨rfl, HB.out⟩
theorem run_slice_op9 (x : OpD) (W : World) : (Instr.buildSlice 24 1 #[(0, x.val)]).run Tryz.prog W = .ok (.slice (some ⟨W.heap.size, 0, none⟩) 1 1) (W.alloc (.cells x.cells.toArray 68)) := by kernel_rfl
theorem small0' : disk0.Small 0 := ⟨by decide, by decide, by decide, by decide, fun f hf => (by cases hf), by decide⟩
theorem two0 : TwoN disk0.files := ⟨List.nodup_nil, fun n f h => (by cases h)⟩
theorem log_make {A : DiskA} (hno : aget A.files nLog = none) (hn : (A.files.map (·.1)).Nodup) (hl : A.files.length ≤ 7) : makeCode (rmA A) nLog = 0 := by
  have h1 : aget (rmA A).files nLog = none := by
    unfold rmA
    split
    · exact hno
    · show aget (applyC ⟨0, ⟨#[]⟩, nNew, none⟩ A.files) nLog = none
      rw [aget_applyC _ _ hn]
      dsimp only
      split
      · rfl
      · exact hno
  have h2 := rmA_len A
  unfold makeCode
  rw [rightN_log, h1]
  simp
  omega
theorem anew_small {A : DiskA} {N fb : Nat} {bs : List UInt8} (hs : A.Small N) (hfl : A.files.length ≤ 7) (hn : (A.files.map (·.1)).Nodup) (hf : fb ∉ A.ids) (hb : bs.length ≤ 1048576) : (anewA fb bs A).Small (N + 7) := by
  have h1 := hs.rm
  have h2 : (an1 fb A).Small (N + 2) := h1.make (an_make hn hfl) (by rw [rmA_ids]; exact hf)
  have h3 := h2.app (an1_get fb A) (bs := bs) (by rw [an1_fs]; simp [sizeP]; omega)
  have h4 := h3.sync (x := nNew) (f := fb) (an1_get fb A)
  exact (h4.syn_.step ⟨0, nLog, nNew, some fb⟩).syn_
theorem OpenA.small {A A' : DiskA} {L : List OpD} {N : Nat} (h : OpenA A A' L) (hs : A.Small N) (hfl : A.files.length ≤ 7) (hi : A.Inj) (hsz : ∀ f ∈ A.ids, sizeP (A.fs f) ≤ 1048576) : A'.Small (N + 8) := by
  rcases h with ⟨hno, rfl, fb, hf, rfl⟩ | ⟨f, hg, rfl, ⟨hc, fb, hf, rfl⟩ | ⟨hc, hn, rfl⟩⟩
  · exact ((hs.rm.make (log_make hno hi.nd hfl) (by rw [rmA_ids]; exact hf)).syn_).mono (by omega)
  · refine (anew_small hs hfl hi.nd hf ?_).mono (by omega)
    have := hsz f (hi.ids _ _ hg)
    rw [List.length_take, bytesP_len]
    omega
  · exact ((hs.sync hg).syn_).mono (by omega)
theorem oneN1 : oneN 1 = oneOp := rfl
theorem one_good : GoodB [oneOp] := ⟨by simp, by decide, fun x hx => by rw [List.mem_singleton.1 hx]; exact ⟨oneOp_right, oneOp_wf⟩, by have := encB_size (l := [oneOp]) (by decide) (fun x hx => by rw [List.mem_singleton.1 hx]; exact oneOp_right); simp at this; omega⟩
theorem frm_one_len {A : DiskA} {f : Nat} {O : OpD} (h : 30 < (encB [O]).length) (hs : Steady A f ([] ++ ([] ++ [[O]])) []) : 40 < (bytesP (A.fs f)).length := by
  have e : frmsL (([] ++ ([] ++ [[O]])) ++ []) = frmL [O] := by simp [frmsL]
  rw [hs.pcs.bytes, e, frmL_len]
  omega
set_option maxRecDepth 20000 in
set_option maxHeartbeats 1000000 in
theorem alive9_any (w : World) (hg : ErrTy w) : Calls Tryz.prog 27 #[] w fun e w' => e = .returned (.bool true) ∧ Below w.heap.size w w' := by
  have h0 : 0 < w.heap.size := cell_lt hg
  go_enter Tryz.func27, Tryz.ntmps27
  go_wp2_with fail
  refine (new_any _ (Nat.le_refl _)).mono ?_
  rintro e w1 ⟨D, rfl, hd, hb, -⟩
  have HD := Lib.hid (And.intro hd (And.intro hb (hg.below hb)))
  clear hd hb hg
  go_wp2_with fail
  refine (lopen_any HD.out.1 HD.out.2.1.size small0' (by omega) (by decide) HD.out.2.2 h0).mono ?_
  rintro e w2 hp
  unfold OpPost at hp
  obtain ⟨lb, D2, A2, vo, L, rfl, hop, ht, hl⟩ := hp
  have HO := Lib.hid hop
  have hi0 := inj0
  obtain ⟨f, ld, hst, hflat, hld, -⟩ := hop.steady hist0 (by decide) inj0 two0
  have hld0 := hld rfl
  subst hld0
  obtain rfl : L = [] := hflat.symm
  have HS := Lib.hid hst
  have S2 := Lib.hid (hop.small small0' (by decide) inj0 (fun f hf => (by cases hf)))
  have hg2 := ht.errTy HD.out.1 h0 HD.out.2.2
  have z2 := Nat.le_trans HD.out.2.1.size ht.ext.size
  have HT := Lib.hid (And.intro ht (And.intro hl hg2))
  clear hop ht hl hi0 hst hflat hld hg2
  go_wp2_with fail
  refine (one9_any 1 _).mono ?_
  rintro e w3 ⟨rfl, hb3⟩
  rw [oneN1]
  obtain ⟨O, hO⟩ : ∃ O, O = oneOp := ⟨_, rfl⟩
  have HO1 : Hid (O.wf ∧ GoodB [O] ∧ 30 < (encB [O]).length ∧ (encB [O]).length ≤ 65536) := Lib.hid (by rw [hO]; exact ⟨oneOp_wf, one_good, oneOp_enc.1, one_good.2.2.2⟩)
  rw [← hO]
  clear hO
  have hb4 : Below w3.heap.size w3 (w3.alloc (.cells O.cells.toArray 68)) := (Below.refl _ _).alloc (Nat.le_refl _) _
  have hs4 : SliceIs OpD.cells 26 (w3.alloc (.cells O.cells.toArray 68)) (.slice (some ⟨w3.heap.size, 0, none⟩) 1 1) [O] := SliceIs.one O 68
  have T4 := Lib.hid (Turned.below HT.out.1.is_ (hb3.trans (hb4.mono hb3.size)))
  have L4 := Lib.hid (HT.out.2.1.below (hb3.trans (hb4.mono hb3.size)))
  have G4 := Lib.hid (HT.out.2.2.below (hb3.trans (hb4.mono hb3.size)))
  have z4 : w.heap.size ≤ (w3.alloc (.cells O.cells.toArray 68)).heap.size := Nat.le_trans z2 (Nat.le_trans hb3.size hb4.size)
  have hlt : ∀ b, (Foot D2 A2 b ∨ b = lb ∨ vo.ownBlock = some b) → b < w3.heap.size := fun b hb => by
    rcases hb with hb | rfl | hb
    · exact Nat.lt_of_lt_of_le (HT.out.1.is_.foot hb).2.1 hb3.size
    · exact Nat.lt_of_lt_of_le HT.out.2.1.b.lt hb3.size
    · exact Nat.lt_of_lt_of_le (HT.out.2.1.o.blk b hb).2 hb3.size
  have HLT := Lib.hid hlt
  have H4 := Lib.hid hs4
  obtain ⟨w4, hw4⟩ : ∃ w4, w3.alloc (.cells O.cells.toArray 68) = w4 := ⟨_, rfl⟩
  rw [hw4] at T4 L4 G4 z4 H4
  have hsl := run_slice_op9 O w3
  rw [hw4] at hsl
  have HSL := Lib.hid hsl
  clear hb4 hs4 hb3 hlt hw4 hsl
  go_wp2_with ((with_reducible_and_instances refine wpList_slice1_run (o := ⟨some 23, _, _, _, _, _⟩) (x0 := .tmp 22) ?_ ?_ ?_ HSL.out ?_); rfl; rfl; rfl)
  refine (lappend_any T4.out.is_ z4 (L4.out.mono HD.out.2.1.size) S2.out (by omega) (by simp) G4.out h0 _ [O] H4.out (fun b o n cap e => ?_) (fun x hx => by rw [List.mem_singleton.1 hx]; exact HO1.out.1) (by simp)).mono ?_
  · simp only [Value.slice.injEq, Option.some.injEq, Addr.mk.injEq] at e
    intro hb
    have := HLT.out b hb
    omega
  rintro e w5 hp
  unfold LAppPost at hp
  have hp2 : ∃ D5 vo5, e = .returned (.int .i64 0) ∧ LT w.heap.size w4 D2 A2 lb vo w5 D5 (appA f (frmL [O]) A2) vo5 [O] 0 := by
    rcases hp with ⟨n, rfl, hc, _⟩ | ⟨_, g, D5, vo5, hg, _, rfl, hlt⟩
    · exfalso
      rcases hc with ⟨_, h | h⟩ | ⟨_, _, _, x, hx, h⟩ | ⟨_, h⟩ | ⟨_, _, h⟩ | ⟨_, _, g, hg, h⟩
      · cases h
      · simp at h
      · rw [List.mem_singleton.1 hx, (HO1.out.2.1.2.2.1 O (by simp)).1] at h
        cases h
      · have := HO1.out.2.2.2; omega
      · rw [HS.out.lg] at h; cases h
      · rw [HS.out.lg] at hg
        cases hg
        have h1 := HS.out.pcs.bytes
        have h2 := bytesP_len (A2.fs f)
        rw [h1] at h2
        have h3 := frmL_len [O]
        have := HO1.out.2.2.2
        simp [frmsL] at h2
        omega
    · rw [HS.out.lg] at hg
      cases hg
      exact ⟨D5, vo5, rfl, hlt⟩
  obtain ⟨D5, vo5, rfl, hlt⟩ := hp2
  have T5 := Lib.hid hlt
  have S5 := Lib.hid (HS.out.app HO1.out.2.1)
  have SM5 := Lib.hid (S2.out.app (bs := frmL [O]) HS.out.lg (by
    have h1 := HS.out.pcs.bytes
    have h2 := bytesP_len (A2.fs f)
    rw [h1] at h2
    have h3 := frmL_len [O]
    have := HO1.out.2.2.2
    simp [frmsL] at h2
    omega))
  clear hp hlt
  go_wp2_with fail
  refine (lsync_any T5.out.disk T5.out.log SM5.out (by omega)).mono ?_
  rintro e w6 (⟨hno, _⟩ | ⟨g, hg, rfl, ht6⟩)
  · rw [S5.out.lg] at hno; cases hno
  rw [S5.out.lg] at hg
  cases hg
  have T6 := Lib.hid (T5.out.trans ht6)
  have S6 := Lib.hid S5.out.sync
  have SM6 := Lib.hid (SM5.out.sync (x := nLog) (f := f) S5.out.lg)
  clear ht6
  go_wp2_with fail
  refine (lops_any T6.out.log (by simp)).mono ?_
  rintro e w7 ⟨v7, rfl, ho7, hb7⟩
  have T7 := Lib.hid (T6.out.below hb7)
  obtain ⟨a7, c7, rfl, -, -, -⟩ := ho7.slice OpD.len
  clear ho7 hb7
  go_wp2_with fail
  rw [show D.pb = D5.pb from (T7.out.pb.trans HT.out.1.pb).symm]
  refine (read_any T7.out.disk nLog SM6.out (by omega)).mono ?_
  rintro e w8 hp
  unfold ReadPost at hp
  rcases hp with ⟨hno, _⟩ | ⟨g, v8, hg, rfl, ho8, hb8⟩
  · rw [S6.out.lg] at hno; cases hno
  rw [S6.out.lg] at hg
  cases hg
  have T8 := Lib.hid (T7.out.below hb8)
  obtain ⟨a8, c8, hv8, -, -, -⟩ := ho8.slice u8c_len
  have hlen := frm_one_len HO1.out.2.2.1 S6.out
  obtain ⟨q, hq⟩ : ∃ q, (bytesP ((syncA f (appA f (frmL [O]) A2)).fs f)).length = q := ⟨_, rfl⟩
  rw [hq] at hv8 hlen
  subst hv8
  have hlen2 : (40 : Int) < (q : Int) := by omega
  clear ho8 hb8 hq hlen
  simp only [List.length_singleton]
  go_wp2_with fail
  refine (lsynced_any T8.out.log).mono ?_
  rintro e w9 ⟨rfl, rfl⟩
  simp only [List.length_singleton]
  go_wp2_with fail
  go_ret
  refine ⟨rfl, ?_⟩
  exact T8.out.frame T4.out.is_ (L4.out.mono HD.out.2.1.size) ((HT.out.1.trans T4.out).frame HD.out.1 HD.out.2.1 (Nat.le_refl _) HD.out.2.1.size) (Nat.le_refl _) z4
theorem wpList_ranH {P : Program} {ops : Array Oper} {rest : List Oper} {o : Oper} {a : Act} {Q : Exit → Act → World → Prop} {W W2 : World} {v : Value} (hw : Region.wanted o (yielded ops a.tmps) = true)
    (hr : (execOp a.eval o).run P W = .ok (.value v) W2) (h : wpList P ops Q rest (a.put o.dst v) W2) : wpList P ops Q (o :: rest) a W := by
  unfold wpList
  rw [if_pos hw]
  left
  rw [Oper.wp, hr]
  exact h
theorem exec_slice9 {P : Program} {o : Oper} {ρ : Operand → Value} {T : TypeId} {n : Nat} {x0 : Operand} {v0 v : Value} {W W2 : World} (ho : o.op = .buildSlice T n #[(0, x0)]) (hx : ρ x0 = v0) (h : (Instr.buildSlice T n #[(0, v0)]).run P W = .ok v W2) : (execOp ρ o).run P W = .ok (.value v) W2 := by
  unfold execOp; simp [ho, hx, h, Result.andThen]
set_option maxRecDepth 20000 in
set_option maxHeartbeats 4000000 in
theorem onil_any (v : Value) (l : List OpD) (w : World) (h : SliceIs OpD.cells 26 w v l) (hg : ErrTy w) : Calls Tryz.prog 9 #[v] w fun e w' => e = .returned (.bool true) ∧ Below w.heap.size w w' := by
  have h0 : 0 < w.heap.size := cell_lt hg
  obtain ⟨xa, xc, rfl, -, -, -⟩ := id h
  clear h
  go_enter Tryz.func9, Tryz.ntmps9
  go_wp2_with fail
  refine (lopennil_any _).mono ?_
  rintro e w1 ⟨rfl, hw1⟩
  obtain rfl := hw1.symm
  go_wp2_with fail
  refine (alive9_any _ hg).mono ?_
  rintro e w2 ⟨rfl, hb2⟩
  have HG2 := Lib.hid (And.intro hb2 (hg.below hb2))
  clear hb2 hg
  go_wp2_with fail
  refine (lappendnil_any _ _).mono ?_
  rintro e w3 ⟨rfl, rfl⟩
  go_wp2_with fail
  refine (lsyncnil_any _).mono ?_
  rintro e w4 ⟨rfl, rfl⟩
  go_wp2_with fail
  refine (lcompactnil_any _).mono ?_
  rintro e w5 ⟨rfl, hb5⟩
  have HG5 := Lib.hid (And.intro (HG2.out.1.trans (hb5.mono HG2.out.1.size)) (HG2.out.2.below hb5))
  clear hb5
  go_wp2_with fail
  refine (opsnil_any _).mono ?_
  rintro e w6 ⟨rfl, rfl⟩
  go_wp2_with fail
  refine (syncednil_any _).mono ?_
  rintro e w7 ⟨rfl, rfl⟩
  go_wp2_with fail
  refine (new_any (base := w.heap.size) _ HG5.out.1.size).mono ?_
  rintro e w8 ⟨D, rfl, hd, hb, -⟩
  have HD := Lib.hid (And.intro hd (And.intro (HG5.out.1.trans (hb.mono HG5.out.1.size)) (HG5.out.2.below hb)))
  clear hd hb
  go_wp2_with fail
  refine (lopen_any HD.out.1 HD.out.2.1.size small0' (by omega) (by decide) HD.out.2.2 h0).mono ?_
  rintro e w9 hp
  unfold OpPost at hp
  obtain ⟨lb, D9, A9, vo, L, rfl, hop, ht, hl⟩ := hp
  obtain ⟨f, ld, hst, hflat, hld, -⟩ := hop.steady hist0 (by decide) inj0 two0
  have hld0 := hld rfl
  subst hld0
  obtain rfl : L = [] := hflat.symm
  have HS := Lib.hid hst
  have S9 := Lib.hid (hop.small small0' (by decide) inj0 (fun f hf => (by cases hf)))
  have z9 := Nat.le_trans HD.out.2.1.size ht.ext.size
  have T9 := Lib.hid ht
  have L9 := Lib.hid (hl.mono HD.out.2.1.size)
  clear hop ht hl hst hflat hld
  go_wp2_with fail
  rw [show D.pb = D9.pb from T9.out.pb.symm]
  refine (remove_any T9.out.is_ z9 nLog S9.out.now0 (by have := S9.out.now; omega) (by have := S9.out.chg; omega)).mono ?_
  rintro e w10 hp
  rcases hp with ⟨hno, _⟩ | ⟨g, D10, hg10, rfl, ht10⟩
  · rw [HS.out.lg] at hno; cases hno
  have hno : aget (stepA ⟨0, ⟨#[]⟩, nLog, none⟩ A9).files nLog = none := by
    show aget (applyC ⟨0, ⟨#[]⟩, nLog, none⟩ A9.files) nLog = none
    rw [aget_applyC _ _ HS.out.two.1]
    dsimp only
    rw [if_pos rfl]
  have HNO := Lib.hid hno
  have S10 := Lib.hid (S9.out.step ⟨0, ⟨#[]⟩, nLog, none⟩)
  have T10 := Lib.hid (T9.out.trans ht10)
  have L10 := Lib.hid (L9.out.turn T9.out.is_ ht10)
  have z10 := Nat.le_trans z9 ht10.ext.size
  clear ht10 hg10 hno
  go_wp2_with fail
  refine (lsync_any T10.out.is_ L10.out S10.out (by omega)).mono ?_
  rintro e w11 (⟨_, rfl, ht11⟩ | ⟨g, hg11, _⟩)
  rotate_left
  · rw [HNO.out] at hg11; cases hg11
  have T11 := Lib.hid ht11
  have z11 := Nat.le_trans z10 ht11.ext.size
  clear ht11
  go_wp2_with fail
  refine (one9_any 1 _).mono ?_
  rintro e w12 ⟨rfl, hb12⟩
  rw [oneN1]
  obtain ⟨O, hO⟩ : ∃ O, O = oneOp := ⟨_, rfl⟩
  have HO1 : Hid (O.wf ∧ GoodB [O] ∧ 30 < (encB [O]).length ∧ (encB [O]).length ≤ 65536) := Lib.hid (by rw [hO]; exact ⟨oneOp_wf, one_good, oneOp_enc.1, one_good.2.2.2⟩)
  rw [← hO]
  clear hO
  have hb13 : Below w12.heap.size w12 (w12.alloc (.cells O.cells.toArray 68)) := (Below.refl _ _).alloc (Nat.le_refl _) _
  have hs13 : SliceIs OpD.cells 26 (w12.alloc (.cells O.cells.toArray 68)) (.slice (some ⟨w12.heap.size, 0, none⟩) 1 1) [O] := SliceIs.one O 68
  have T13 := Lib.hid (T11.out.below (hb12.trans (hb13.mono hb12.size)))
  have hg13 : ErrTy (w12.alloc (.cells O.cells.toArray 68)) := T13.out.errTy T10.out.is_ L10.out h0 (T10.out.errTy HD.out.1 h0 HD.out.2.2)
  have z13 : w.heap.size ≤ (w12.alloc (.cells O.cells.toArray 68)).heap.size := Nat.le_trans z11 (Nat.le_trans hb12.size hb13.size)
  have hlt : ∀ b, (Foot D10 (stepA ⟨0, ⟨#[]⟩, nLog, none⟩ A9) b ∨ b = lb ∨ vo.ownBlock = some b) → b < w12.heap.size := fun b hb => by
    rcases hb with hb | rfl | hb
    · exact Nat.lt_of_lt_of_le (T11.out.disk.foot hb).2.1 hb12.size
    · exact Nat.lt_of_lt_of_le T11.out.log.b.lt hb12.size
    · exact Nat.lt_of_lt_of_le (T11.out.log.o.blk b hb).2 hb12.size
  have HLT := Lib.hid hlt
  have H13 := Lib.hid hs13
  have hsl := run_slice_op9 O w12
  obtain ⟨w13, hw13⟩ : ∃ w13, w12.alloc (.cells O.cells.toArray 68) = w13 := ⟨_, rfl⟩
  rw [hw13] at T13 hg13 z13 H13 hsl
  have HG13 := Lib.hid hg13
  have HSL := Lib.hid hsl
  clear hb13 hs13 hb12 hlt hw13 hsl hg13
  go_wp2_with ((with_reducible_and_instances refine wpList_ranH (o := ⟨some 73, _, _, _, _, _⟩) (W2 := w13) (v := .slice (some ⟨w12.heap.size, 0, none⟩) 1 1) ?_ ?_ ?_); rfl; exact exec_slice9 rfl rfl HSL.out)
  refine (lappend_any T13.out.disk z13 T13.out.log S10.out (by omega) (by simp) HG13.out h0 _ [O] H13.out (fun b o n cap e => ?_) (fun x hx => by rw [List.mem_singleton.1 hx]; exact HO1.out.1) (by simp)).mono ?_
  · simp only [Value.slice.injEq, Option.some.injEq, Addr.mk.injEq] at e
    intro hb
    have := HLT.out b hb
    omega
  rintro e w14 hp
  unfold LAppPost at hp
  have hp2 : e = .returned (.int .i64 61) ∧ LT w.heap.size w13 D10 (stepA ⟨0, ⟨#[]⟩, nLog, none⟩ A9) lb vo w14 D10 (stepA ⟨0, ⟨#[]⟩, nLog, none⟩ A9) vo [] 0 := by
    rcases hp with ⟨n, rfl, hc, hlt⟩ | ⟨_, g, D5, vo5, hg, _⟩
    · rcases hc with ⟨_, h | h⟩ | ⟨_, _, _, x, hx, h⟩ | ⟨_, h⟩ | ⟨rfl, _, h⟩ | ⟨_, _, g, hg, h⟩
      · cases h
      · simp at h
      · rw [List.mem_singleton.1 hx, (HO1.out.2.1.2.2.1 O (by simp)).1] at h
        cases h
      · have := HO1.out.2.2.2; omega
      · exact ⟨rfl, hlt⟩
      · rw [HNO.out] at hg; cases hg
    · rw [HNO.out] at hg; cases hg
  obtain ⟨rfl, hlt⟩ := hp2
  have T14 := Lib.hid (T13.out.trans hlt)
  clear hp hlt
  go_wp2_with fail
  refine (lops_any T14.out.log (by simp)).mono ?_
  rintro e w15 ⟨v15, rfl, ho15, hb15⟩
  have T15 := Lib.hid (T14.out.below hb15)
  obtain ⟨a15, c15, rfl, -, -, -⟩ := ho15.slice OpD.len
  clear ho15 hb15
  simp only [List.length_nil]
  go_wp2_with fail
  go_ret
  refine ⟨rfl, ?_⟩
  exact T15.out.frame T10.out.is_ L10.out (T10.out.frame HD.out.1 HD.out.2.1 (Nat.le_refl _) HD.out.2.1.size) (Nat.le_refl _) z10
end Go.Proofs.YtgmdimbiipemhaaGreatDoor
namespace Go.Proofs.YtgmdimbiipemhaaGreatDoor
open Go.ChangeShapes Go.WideShapes Go.ChangeAt Go.RowKit
def laidE : List (String × DataW Unit) := [("errors.errorType", Rows.laid_errors_errorType)]
theorem Tryz.et : Tryz.prog.globalNamed "errors.errorType" = some 0 := by kernel_rfl
theorem Tryz.rt : (Tryz.prog.cutTypes.find? (·.1 == "internal/reflectlite.rtype")).map (·.2) = some 234 := by kernel_rfl
theorem Tryz.oneRow : ((List.range Tryz.prog.types.size).filter fun t => Tryz.prog.rowNamed t [101, 114, 114, 111, 114]) = [94] := by kernel_rfl
noncomputable def worldE (os : Os) : World :=
  let w0 := World.holding Tryz.prog os ⟨#[], #[], []⟩
  { w0 with heap := w0.heap.modify 0 fun
      | .cells _ t frozen => .cells #[.iface 234 (.agg #[.pointer (some ⟨5, 94, none⟩)])] t frozen
      | o => o }
def laidD4 : List (String × DataW Unit) := [("unicode/utf8.acceptRanges", Rows.laid_unicode_utf8_acceptRanges), ("bytes.ErrTooLarge", Rows.laid_bytes_ErrTooLarge), ("unicode/utf8.first", Rows.laid_unicode_utf8_first)]
def laidL4 : List (String × DataW Unit) := [("unicode/utf8.acceptRanges", Rows.laid_unicode_utf8_acceptRanges), ("errors.errorType", Rows.laid_errors_errorType), ("bytes.ErrTooLarge", Rows.laid_bytes_ErrTooLarge), ("unicode/utf8.first", Rows.laid_unicode_utf8_first)]
theorem laid_data4 : (laidL4.filter fun x => x.2.handleName?.isNone) = laidD4 := by kernel_rfl
theorem laid_hand4 : (laidL4.filter fun x => x.2.handleName?.isSome) = laidE := by kernel_rfl
theorem errTy_of_laid4 {W : World} (h : laidMetH Tryz.prog laidL4 W) : ErrTy W := by
  have h2 : handlesMet Tryz.prog laidE W := by
    unfold laidMetH at h
    rw [laid_hand4, laid_data4] at h
    exact h.2
  obtain ⟨name, u, ty, e1, e2, e3, e4, e5⟩ := h2 _ (List.mem_singleton.2 rfl)
  have en : name = [101, 114, 114, 111, 114] := (Option.some.inj e1).symm
  subst en
  obtain rfl := Option.some.inj (Tryz.rt.symm.trans e2)
  have hm : ty ∈ (List.range Tryz.prog.types.size).filter fun t => Tryz.prog.rowNamed t [101, 114, 114, 111, 114] := List.mem_filter.2 ⟨List.mem_range.2 e3, e4⟩
  rw [Tryz.oneRow] at hm
  obtain rfl := List.mem_singleton.1 hm
  have hh : typeHandle Tryz.prog 94 = .pointer (some ⟨5, 94, none⟩) := by kernel_rfl
  rw [hh] at e5
  unfold ErrTy
  simpa using World.var?_cell Tryz.et e5 0
noncomputable def worldL4 (os : Os) : World := (worldE os).layVars Tryz.prog laidD4
theorem worldL4_os (os : Os) : (worldL4 os).os = os := World.layVars_os _ _ _
theorem worldL4_met (os : Os) (args : Array Value) : laidMetH Tryz.prog laidL4 ((worldL4 os).forCall (fun _ _ => 0) ⟨#[], args, []⟩).memory := by
  refine laidMetH_of_parts ?_ (by rw [laid_hand4]; kernel_rfl)
  rw [laid_data4]
  have e1 : (laidD4.filter fun x => (laidD4.map (·.1)).contains x.1) = laidD4 := List.filter_eq_self.2 fun x hx => List.contains_iff_mem.2 (List.mem_map.2 ⟨x, hx, rfl⟩)
  have e2 : (laidD4.filter fun x => !(laidD4.map (·.1)).contains x.1) = [] := List.filter_eq_nil_iff.2 fun x hx => by rw [List.contains_iff_mem.2 (List.mem_map.2 ⟨x, hx, rfl⟩)]; simp
  have h : laidMet Tryz.prog laidD4 (worldL4 os) := laidMet_layVars (w0 := worldE os) (laidD4.map (·.1)) [] (by rw [e1]; rfl) (by rw [e1]; kernel_rfl) (by rw [e1]; kernel_rfl) (by rw [e2]; exact LaidIn.none)
  exact h.of_heap (by simp [World.memory, World.forCall, Input.heap])
end Go.Proofs.YtgmdimbiipemhaaGreatDoor
