/- Contracts of Disk.find, Make, Rename, Remove, SyncNames, Changes. -/
import Derived.Test.YtmlaojfhmaamcaaStep06
import Derived.Test.YtmlaojfhmaamcaaRight06
namespace Go.Proofs.Ytmlaojfhmaamcaa
open Go.RowKit Go.Deep
set_option linter.unusedSimpArgs false
set_option linter.unusedVariables false

/-- What find answers. -/
def findV (A : DiskA) (name : ByteArray) : Value := .tuple #[ptrV (aget A.files name), .int .i64 (if (aget A.files name).isSome then 0 else 61)]

set_option maxHeartbeats 1000000 in
set_option maxRecDepth 20000 in
theorem find_any {base : Nat} {w : World} {D : DSh} {A : DiskA} (h : DiskIs base w D A) (name : ByteArray) :
    Calls Try.prog 33 #[.pointer (some ⟨D.pb, 0, none⟩), .string name] w fun e w' => e = .returned (findV A name) ∧ w' = w := by
  have c0 := Joins.cell_of_block h.blk 0
  simp only [List.getElem?_toArray, List.getElem?_cons_zero] at c0
  unfold findV
  cases hg : aget A.files name with
  | none =>
    have hl : (Instr.lookup 58 (.map (some D.mf)) (.string name) false).run Try.prog w = .ok (.pointer none) w := by
      have := h.mfiles.lookup key_string und_files zero_file name
      rw [hg] at this
      exact this
    have HH := Lib.hid h
    clear h
    go_enter Try.func33, Try.ntmps33
    go_wp2
    refine bodyPost_ret (results_tmp2 rfl _ _ _) rfl ?_
    exact ⟨rfl, rfl⟩
  | some f =>
    have hl : (Instr.lookup 58 (.map (some D.mf)) (.string name) false).run Try.prog w = .ok (.pointer (some ⟨f, 0, none⟩)) w := by
      have := h.mfiles.lookup key_string und_files zero_file name
      rw [hg] at this
      exact this
    have HH := Lib.hid h
    clear h
    go_enter Try.func33, Try.ntmps33
    go_wp2
    refine bodyPost_ret (results_tmp2 rfl _ _ _) rfl ?_
    exact ⟨rfl, rfl⟩


/-- len of a map. -/
theorem MapIs.len {K V : Type} [DecidableEq K] {ek : K → Value} {ev : V → Value} {w : World} {b : Nat} {l : List (K × V)} {P : Program} {mt kt et : TypeId} (h : MapIs ek ev w b l) (hm : P.underlying mt = some (.map kt et)) (ty : TypeId) :
    (Builtin.len_ #[mt] ty #[.map (some b)]).run P w = .ok (.int .i64 l.length) w := by
  obtain ⟨hn, es, clock, h1, h2, h3, h4⟩ := h
  have hs : es.size = l.length := by
    have := congrArg List.length h2
    simpa using this
  simp [Builtin.len_, run_underlying hm, run_getObj_map' h1, goInt, Result.andThen, hs]

set_option maxRecDepth 20000 in
theorem changes_any {base : Nat} {w : World} {D : DSh} {A : DiskA} (h : DiskIs base w D A) :
    Calls Try.prog 13 #[.pointer (some ⟨D.pb, 0, none⟩)] w fun e w' => e = .returned (.int .i64 A.now) ∧ w' = w := by
  have c0 := Joins.cell_of_block h.blk 4
  simp only [List.getElem?_toArray, List.getElem?_cons_zero, List.getElem?_cons_succ] at c0
  have HH := Lib.hid h
  clear h
  go_enter Try.func13, Try.ntmps13
  go_wp2
  go_ret
  exact ⟨rfl, rfl⟩

/-- Make's answer. -/
def makeCode (A : DiskA) (n : ByteArray) : Int := if rightN n = false then 63 else if (aget A.files n).isSome then 1 else if A.files.length = 8 then 62 else 0
/-- A new file is there. -/
def bornA (fb : Nat) (A : DiskA) : DiskA := { A with ids := fb :: A.ids, fs := fun g => if g = fb then [] else A.fs g }

theorem Turned.born {base : Nat} {w : World} {D : DSh} {A : DiskA} (h : DiskIs base w D A) (hl : base ≤ w.heap.size) :
    Turned base w D A (w.alloc (.cells #[.slice none 0 0, .int .i64 0] 74)) { D with rv := fun g => if g = w.heap.size then .slice none 0 0 else D.rv g } (bornA w.heap.size A) where
  is_ := h.born hl
  pb := rfl
  ext := (Ext.refl _ _).alloc _
  foot b hb := by
    have hn : ∀ f ∈ A.ids, f ≠ w.heap.size := fun f hf => Nat.ne_of_lt (h.file f hf).lt
    rcases hb with e | e | e | e | e | ⟨g, hg, e⟩
    · exact .inl (.inl e)
    · exact .inl (.inr (.inl e))
    · exact .inl (.inr (.inr (.inl e)))
    · exact .inl (.inr (.inr (.inr (.inl e))))
    · exact .inl (.inr (.inr (.inr (.inr (.inl e)))))
    · rcases List.mem_cons.1 hg with rfl | hg
      · dsimp only at e
        rw [if_pos rfl] at e
        rcases e with rfl | e
        · exact .inr (Nat.le_refl _)
        · cases e
      · dsimp only at e
        rw [if_neg (hn g hg)] at e
        exact .inl (.inr (.inr (.inr (.inr (.inr ⟨g, hg, e⟩)))))

set_option maxRecDepth 20000 in
set_option maxHeartbeats 1000000 in
theorem make_any {base : Nat} {w : World} {D : DSh} {A : DiskA} (h : DiskIs base w D A) (hbw : base ≤ w.heap.size) (name : ByteArray) (hn0 : 0 ≤ A.now) (hn1 : A.now ≤ 1000000000) (hl : A.chg.length ≤ 1000000000) :
    Calls Try.prog 21 #[.pointer (some ⟨D.pb, 0, none⟩), .string name] w fun e w' => e = .returned (.int .i64 (makeCode A name)) ∧
      ((makeCode A name ≠ 0 ∧ Turned base w D A w' D A) ∨ (makeCode A name = 0 ∧ ∃ fb D', fb ∉ A.ids ∧ Turned base w D A w' D' (stepA ⟨0, name, ⟨#[]⟩, some fb⟩ (bornA fb A)))) := by
  go_enter Try.func21, Try.ntmps21
  go_wp2_with fail
  refine (right_any name _).mono ?_
  rintro e w1 ⟨rfl, b1⟩
  have hT1 := Turned.below h b1
  have h1 := hT1.is_
  have hb1 : base ≤ w1.heap.size := Nat.le_trans hbw b1.size
  cases hr : rightN name with
  | false =>
    have hc : makeCode A name = 63 := by simp [makeCode, hr]
    have HT := Lib.hid hT1
    clear h h1 hT1 b1
    go_wp2
    go_ret
    exact ⟨by rw [hc]; rfl, .inl ⟨by rw [hc]; decide, HT.out⟩⟩
  | true =>
    have c0 := Joins.cell_of_block h1.blk 0
    simp only [List.getElem?_toArray, List.getElem?_cons_zero] at c0
    have hl1 := h1.mfiles.lookup key_string und_files zero_file name
    cases hg : aget A.files name with
    | some f =>
      have hc : makeCode A name = 1 := by simp [makeCode, hr, hg]
      rw [hg] at hl1
      simp only [Option.map_some, Option.getD_some, fptr] at hl1
      have HT := Lib.hid hT1
      clear h h1 hT1 b1
      go_wp2
      go_ret
      exact ⟨by rw [hc]; rfl, .inl ⟨by rw [hc]; decide, HT.out⟩⟩
    | none =>
      rw [hg] at hl1
      simp only [Option.map_none, Option.getD_none] at hl1
      have hln := h1.mfiles.len und_files 3
      by_cases h8 : A.files.length = 8
      · have hc : makeCode A name = 62 := by simp [makeCode, hr, hg, h8]
        rw [h8] at hln
        have HT := Lib.hid hT1
        clear h h1 hT1 b1
        go_wp2
        go_ret
        exact ⟨by rw [hc]; rfl, .inl ⟨by rw [hc]; decide, HT.out⟩⟩
      · have hc : makeCode A name = 0 := by simp [makeCode, hr, hg, h8]
        have h9 : ¬ (A.files.length : Int) = 8 := by omega
        have hT2 := hT1.trans (Turned.born h1 hb1)
        have hs := step_any (Turned.born h1 hb1).is_ (by simp; omega) ⟨0, name, ⟨#[]⟩, some w1.heap.size⟩ (fun f hf => by cases hf; exact ⟨List.mem_cons_self, rightN_size hr⟩) hn0 hn1 hl
        have hni : w1.heap.size ∉ A.ids := fun hm => by have := (h1.file _ hm).lt; omega
        have HT2 := Lib.hid hT2
        have HS := Lib.hid hs
        clear h h1 hT1 b1 hT2 hs
        go_wp2_with fail
        refine HS.out.mono ?_
        rintro e w3 ⟨rfl, D', hT3⟩
        have HT3 := Lib.hid (HT2.out.trans hT3)
        clear hT3
        go_wp2
        go_ret
        exact ⟨by rw [hc]; rfl, .inr ⟨hc, _, D', hni, HT3.out⟩⟩

set_option maxRecDepth 20000 in
set_option maxHeartbeats 1000000 in
theorem remove_any {base : Nat} {w : World} {D : DSh} {A : DiskA} (h : DiskIs base w D A) (hbw : base ≤ w.heap.size) (name : ByteArray) (hn0 : 0 ≤ A.now) (hn1 : A.now ≤ 1000000000) (hl : A.chg.length ≤ 1000000000) :
    Calls Try.prog 28 #[.pointer (some ⟨D.pb, 0, none⟩), .string name] w fun e w' =>
      (aget A.files name = none ∧ e = .returned (.int .i64 61) ∧ Turned base w D A w' D A) ∨ (∃ f D', aget A.files name = some f ∧ e = .returned (.int .i64 0) ∧ Turned base w D A w' D' (stepA ⟨0, ⟨#[]⟩, name, none⟩ A)) := by
  go_enter Try.func28, Try.ntmps28
  go_wp2_with fail
  refine (find_any h name).mono ?_
  rintro e w1 ⟨rfl, rfl⟩
  have hs := step_any h hbw ⟨0, ⟨#[]⟩, name, none⟩ (fun f hf => by cases hf) hn0 hn1 hl
  have HS := Lib.hid hs
  have HH := Lib.hid h
  clear h hs
  unfold findV
  cases hg : aget A.files name with
  | none =>
    simp only [Option.isSome_none, ptrV, Option.map_none]
    go_wp2
    go_ret
    first | exact .inl ⟨hg, rfl, Turned.refl HH.out⟩ | exact ⟨rfl, Turned.refl HH.out⟩
  | some f =>
    simp only [Option.isSome_some, ptrV, Option.map_some, if_true]
    go_wp2_with fail
    refine HS.out.mono ?_
    rintro e w3 ⟨rfl, D', hT3⟩
    have HT3 := Lib.hid hT3
    clear hT3
    go_wp2
    go_ret
    exact .inr ⟨f, D', hg, rfl, HT3.out⟩

set_option maxRecDepth 20000 in
set_option maxHeartbeats 1000000 in
theorem rename_any {base : Nat} {w : World} {D : DSh} {A : DiskA} (h : DiskIs base w D A) (hbw : base ≤ w.heap.size) (old name : ByteArray) (hn0 : 0 ≤ A.now) (hn1 : A.now ≤ 1000000000) (hl : A.chg.length ≤ 1000000000) :
    Calls Try.prog 26 #[.pointer (some ⟨D.pb, 0, none⟩), .string old, .string name] w fun e w' =>
      (rightN name = false ∧ e = .returned (.int .i64 63) ∧ Turned base w D A w' D A) ∨ (rightN name = true ∧ aget A.files old = none ∧ e = .returned (.int .i64 61) ∧ Turned base w D A w' D A) ∨
      (∃ f D', rightN name = true ∧ aget A.files old = some f ∧ e = .returned (.int .i64 0) ∧ Turned base w D A w' D' (stepA ⟨0, name, old, some f⟩ A)) := by
  go_enter Try.func26, Try.ntmps26
  go_wp2_with fail
  refine (right_any name _).mono ?_
  rintro e w1 ⟨rfl, b1⟩
  have hT1 := Turned.below h b1
  have h1 := hT1.is_
  have hb1 : base ≤ w1.heap.size := Nat.le_trans hbw b1.size
  cases hr : rightN name with
  | false =>
    have HT := Lib.hid hT1
    clear h h1 hT1 b1
    go_wp2
    go_ret
    exact .inl ⟨hr, rfl, HT.out⟩
  | true =>
    go_wp2_with fail
    refine (find_any h1 old).mono ?_
    rintro e w2 ⟨rfl, rfl⟩
    unfold findV
    cases hg : aget A.files old with
    | none =>
      simp only [Option.isSome_none, ptrV, Option.map_none]
      have HT := Lib.hid hT1
      clear h h1 hT1 b1
      go_wp2
      go_ret
      first | exact .inr (.inl ⟨hr, hg, rfl, HT.out⟩) | exact .inr ⟨hr, rfl, HT.out⟩ | exact ⟨rfl, HT.out⟩
    | some f =>
      simp only [Option.isSome_some, ptrV, Option.map_some, if_true]
      have hs := step_any h1 hb1 ⟨0, name, old, some f⟩ (fun g hf => by cases hf; exact ⟨(h1.ok.inf _ _ (aget_mem hg)).1, rightN_size hr⟩) hn0 hn1 hl
      have HS := Lib.hid hs
      have HT := Lib.hid hT1
      clear h h1 hT1 b1 hs
      go_wp2_with fail
      refine HS.out.mono ?_
      rintro e w3 ⟨rfl, D', hT3⟩
      have HT3 := Lib.hid (HT.out.trans hT3)
      clear hT3
      go_wp2
      go_ret
      first | exact .inr (.inr ⟨f, D', hr, hg, rfl, HT3.out⟩) | exact ⟨f, D', hr, hg, rfl, HT3.out⟩

end Go.Proofs.Ytmlaojfhmaamcaa
