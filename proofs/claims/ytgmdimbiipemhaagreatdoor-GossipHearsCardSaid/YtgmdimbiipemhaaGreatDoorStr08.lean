/- Names, values, keys: contracts. -/
import Derived.Test.YtgmdimbiipemhaaGreatDoorCnv08
import Derived.Test.YtgmdimbiipemhaaGreatDoorLaid
import Derived.Lib.SlTrimSet
import Derived.Deep.LoopGhost
import Derived.Lib.ConvBytes
namespace Go.Proofs.YtgmdimbiipemhaaGreatDoor
open Go.RowKit Go.Deep Go.Shelf
set_option linter.unusedSimpArgs false
set_option linter.unusedVariables false

def nameB (s : ByteArray) : Bool := decide (1 ≤ s.size ∧ s.size ≤ 8) && s.data.toList.all fun c => decide (97 ≤ c.toNat ∧ c.toNat ≤ 122)
def valueB (s : ByteArray) : Bool := decide (s.size ≤ 16) && s.data.toList.all fun c => decide (32 ≤ c.toNat ∧ c.toNat ≤ 126)
def keyB (s : ByteArray) : Bool := decide (1 ≤ s.size ∧ s.size ≤ 64) && (s.data.toList.all fun c => decide (48 ≤ c.toNat ∧ c.toNat ≤ 57 ∨ 97 ≤ c.toNat ∧ c.toNat ≤ 122)) && decide (s.data.toList.getLast? ≠ some 48)

theorem dropW_nil {α : Type} (p : α → Bool) : ∀ l : List α, l.dropWhile p = [] ↔ ∀ x ∈ l, p x = true
  | [] => by simp
  | x :: l => by
    rw [List.dropWhile_cons]
    split
    · rename_i h
      rw [dropW_nil p l]
      simp [h]
    · rename_i h
      simp [h]
theorem trim_none (l cs : List UInt8) : Lib.trimS l cs = [] ↔ ∀ c ∈ l, c ∈ cs := by
  unfold Lib.trimS Lib.trimRightS Lib.trimLeftS
  constructor
  · intro h c hc
    rw [dropW_nil] at h
    by_cases hx : c ∈ (l.reverse.dropWhile (cs.contains ·)).reverse
    · simpa using h c hx
    · have h2 : c ∈ l.reverse := by simpa using hc
      rw [← List.takeWhile_append_dropWhile (p := (cs.contains ·)) (l := l.reverse)] at h2
      rcases List.mem_append.1 h2 with h2 | h2
      · have := List.all_takeWhile (p := (cs.contains ·)) (l := l.reverse)
        simpa using List.all_eq_true.1 this c h2
      · exact absurd (by simpa using h2) hx
  · intro h
    have : l.reverse.dropWhile (cs.contains ·) = [] := by
      rw [dropW_nil]
      intro c hc
      simpa using h c (by simpa using hc)
    rw [this]
    rfl
def lettersL : List UInt8 := [97, 98, 99, 100, 101, 102, 103, 104, 105, 106, 107, 108, 109, 110, 111, 112, 113, 114, 115, 116, 117, 118, 119, 120, 121, 122]
def alnumL : List UInt8 := [48, 49, 50, 51, 52, 53, 54, 55, 56, 57, 97, 98, 99, 100, 101, 102, 103, 104, 105, 106, 107, 108, 109, 110, 111, 112, 113, 114, 115, 116, 117, 118, 119, 120, 121, 122]
theorem mem_letters (c : UInt8) : c ∈ lettersL ↔ 97 ≤ c.toNat ∧ c.toNat ≤ 122 := by
  have key : ∀ n : Fin 256, (UInt8.ofNat n.val) ∈ lettersL ↔ 97 ≤ n.val ∧ n.val ≤ 122 := by decide +kernel
  have := key ⟨c.toNat, c.toNat_lt⟩
  simpa using this
theorem mem_alnum (c : UInt8) : c ∈ alnumL ↔ (48 ≤ c.toNat ∧ c.toNat ≤ 57 ∨ 97 ≤ c.toNat ∧ c.toNat ≤ 122) := by
  have key : ∀ n : Fin 256, (UInt8.ofNat n.val) ∈ alnumL ↔ (48 ≤ n.val ∧ n.val ≤ 57 ∨ 97 ≤ n.val ∧ n.val ≤ 122) := by decide +kernel
  have := key ⟨c.toNat, c.toNat_lt⟩
  simpa using this
theorem size_list (s : ByteArray) : s.data.toList.length = s.size := by simp
/-- A text and the empty one. -/
theorem empty_eq (l : List UInt8) : (⟨l.toArray⟩ : ByteArray).toList.isEmpty = decide (l = []) := by
  rw [ByteArray.toList_eq]
  cases l with
  | nil => rfl
  | cons x l => rw [decide_eq_false (by simp)]; rfl
theorem nameB_trim {s : ByteArray} (h1 : 1 ≤ s.size) (h2 : s.size ≤ 8) : nameB s = decide (Lib.trimS s.data.toList lettersL = []) := by
  unfold nameB
  rw [decide_eq_true ⟨h1, h2⟩, Bool.true_and]
  by_cases ht : Lib.trimS s.data.toList lettersL = []
  · rw [decide_eq_true ht]
    rw [trim_none] at ht
    exact List.all_eq_true.2 fun c hc => decide_eq_true ((mem_letters c).1 (ht c hc))
  · rw [decide_eq_false ht]
    refine Bool.eq_false_iff.2 fun h => ht ?_
    rw [trim_none]
    exact fun c hc => (mem_letters c).2 (of_decide_eq_true (List.all_eq_true.1 h c hc))
theorem keyB_trim {s : ByteArray} (h1 : 1 ≤ s.size) (h2 : s.size ≤ 64) : keyB s = (decide (Lib.trimS s.data.toList alnumL = []) && !(Lib.hasSuffix s.data.toList [48])) := by
  have e2 : (!(Lib.hasSuffix s.data.toList [48])) = decide (s.data.toList.getLast? ≠ some 48) := by
    unfold Lib.hasSuffix
    by_cases h : s.data.toList.getLast? = some 48
    · rw [decide_eq_false (by simp [h])]
      have : [48] <:+ s.data.toList := by
        obtain ⟨ys, hys⟩ := List.getLast?_eq_some_iff.1 h
        exact ⟨ys, hys.symm⟩
      simp [List.isSuffixOf_iff_suffix.2 this]
    · rw [decide_eq_true h]
      have : ¬ [48] <:+ s.data.toList := fun ⟨ys, hys⟩ => h (by rw [← hys]; simp)
      have h3 : [48].isSuffixOf s.data.toList = false := Bool.eq_false_iff.2 fun e => this (List.isSuffixOf_iff_suffix.1 e)
      rw [h3]; rfl
  unfold keyB
  rw [decide_eq_true ⟨h1, h2⟩, Bool.true_and, e2]
  congr 1
  by_cases ht : Lib.trimS s.data.toList alnumL = []
  · rw [decide_eq_true ht]
    rw [trim_none] at ht
    exact List.all_eq_true.2 fun c hc => decide_eq_true ((mem_alnum c).1 (ht c hc))
  · rw [decide_eq_false ht]
    refine Bool.eq_false_iff.2 fun h => ht ?_
    rw [trim_none]
    exact fun c hc => (mem_alnum c).2 (of_decide_eq_true (List.all_eq_true.1 h c hc))

set_option maxHeartbeats 1000000 in
theorem name_any (s : ByteArray) (w : World) (hs : s.size ≤ 9223372036854775807) : Calls Tryz.prog 143 #[.string s] w fun e w' => e = .returned (.bool (nameB s)) ∧ Below w.heap.size w w' := by
  by_cases h1 : 1 ≤ s.size
  · have h1' : (1 : Int) ≤ (s.size : Int) := by omega
    by_cases h2 : s.size ≤ 8
    · have h2' : (s.size : Int) ≤ 8 := by omega
      have hcon := Any.strings_Trim_laid Tryz.trimF (by kernel_rfl) s ⟨#[97, 98, 99, 100, 101, 102, 103, 104, 105, 106, 107, 108, 109, 110, 111, 112, 113, 114, 115, 116, 117, 118, 119, 120, 121, 122]⟩ w hs (by decide) (ascii_of_all (by decide))
      change Calls Tryz.prog 176 _ _ (fun e w' => e = .returned (.string ⟨(Lib.trimS s.data.toList lettersL).toArray⟩) ∧ Below w.heap.size w w') at hcon
      have HC := Lib.hid hcon
      have hb := nameB_trim h1 h2
      have he := empty_eq (Lib.trimS s.data.toList lettersL)
      rw [← hb] at he
      have HE := Lib.hid he
      generalize (⟨(Lib.trimS s.data.toList lettersL).toArray⟩ : ByteArray) = r at HC HE
      clear hcon hb he h1 h2
      go_enter Tryz.func143, Tryz.ntmps143
      go_wp2_with fail
      refine HC.out.mono ?_
      rintro e w5 ⟨rfl, b5⟩
      have he := HE.out
      go_wp2_with fail
      go_ret
      exact ⟨rfl, b5⟩
    · have h2' : ¬ (s.size : Int) ≤ 8 := by omega
      have HN : Hid (nameB s = false) := Lib.hid (by unfold nameB; rw [decide_eq_false (fun h => h2 h.2)]; rfl)
      clear h1 h2
      go_enter Tryz.func143, Tryz.ntmps143
      go_wp2_with fail
      go_ret
      exact ⟨by rw [HN.out]; rfl, Below.refl _ _⟩
  · have h1' : ¬ (1 : Int) ≤ (s.size : Int) := by omega
    have HN : Hid (nameB s = false) := Lib.hid (by unfold nameB; rw [decide_eq_false (fun h => h1 h.1)]; rfl)
    clear h1
    go_enter Tryz.func143, Tryz.ntmps143
    go_wp2_with fail
    go_ret
    exact ⟨by rw [HN.out]; rfl, Below.refl _ _⟩

set_option maxHeartbeats 1000000 in
theorem key_any (s : ByteArray) (w : World) (hs : s.size ≤ 9223372036854775807) : Calls Tryz.prog 142 #[.string s] w fun e w' => e = .returned (.bool (keyB s)) ∧ Below w.heap.size w w' := by
  by_cases h1 : 1 ≤ s.size
  · have h1' : (1 : Int) ≤ (s.size : Int) := by omega
    by_cases h2 : s.size ≤ 64
    · have h2' : (s.size : Int) ≤ 64 := by omega
      have hcon := Any.strings_Trim_laid Tryz.trimF (by kernel_rfl) s ⟨#[48, 49, 50, 51, 52, 53, 54, 55, 56, 57, 97, 98, 99, 100, 101, 102, 103, 104, 105, 106, 107, 108, 109, 110, 111, 112, 113, 114, 115, 116, 117, 118, 119, 120, 121, 122]⟩ w hs (by decide) (ascii_of_all (by decide))
      change Calls Tryz.prog 176 _ _ (fun e w' => e = .returned (.string ⟨(Lib.trimS s.data.toList alnumL).toArray⟩) ∧ Below w.heap.size w w') at hcon
      have HC := Lib.hid hcon
      have hsuf := fun w' => Any.strings_HasSuffix Tryz.sufF s ⟨#[48]⟩ w' hs
      change ∀ w', Calls Tryz.prog 177 _ _ (fun e w'' => e = .returned (.bool (Lib.hasSuffix s.data.toList [48])) ∧ w'' = w') at hsuf
      have HS := Lib.hid hsuf
      have HB := Lib.hid (keyB_trim h1 h2)
      have he := empty_eq (Lib.trimS s.data.toList alnumL)
      obtain ⟨tb, htb⟩ : ∃ tb, tb = decide (Lib.trimS s.data.toList alnumL = []) := ⟨_, rfl⟩
      rw [← htb] at HB he
      have HE := Lib.hid he
      generalize (⟨(Lib.trimS s.data.toList alnumL).toArray⟩ : ByteArray) = r at HC HE
      generalize Lib.hasSuffix s.data.toList [48] = sb at HB HS
      clear hcon hsuf he h1 h2 htb
      go_enter Tryz.func142, Tryz.ntmps142
      go_wp2_with fail
      refine HC.out.mono ?_
      rintro e w5 ⟨rfl, b5⟩
      have he := HE.out
      cases tb with
      | false =>
        go_wp2_with fail
        go_ret
        exact ⟨by rw [HB.out]; rfl, b5⟩
      | true =>
        go_wp2_with fail
        refine (HS.out _).mono ?_
        rintro e w6 ⟨rfl, e6⟩
        rw [e6]
        clear e6 w6
        go_wp2_with fail
        go_ret
        exact ⟨by rw [HB.out]; simp, b5⟩
    · have h2' : ¬ (s.size : Int) ≤ 64 := by omega
      have HN : Hid (keyB s = false) := Lib.hid (by unfold keyB; rw [decide_eq_false (fun h => h2 h.2)]; rfl)
      clear h1 h2
      go_enter Tryz.func142, Tryz.ntmps142
      go_wp2_with fail
      go_ret
      exact ⟨by rw [HN.out]; rfl, Below.refl _ _⟩
  · have h1' : ¬ (1 : Int) ≤ (s.size : Int) := by omega
    have HN : Hid (keyB s = false) := Lib.hid (by unfold keyB; rw [decide_eq_false (fun h => h1 h.1)]; rfl)
    clear h1
    go_enter Tryz.func142, Tryz.ntmps142
    go_wp2_with fail
    go_ret
    exact ⟨by rw [HN.out]; rfl, Below.refl _ _⟩

theorem und_u8 : Tryz.prog.underlying 5 = some (.int .u8) := by kernel_rfl
/-- []byte(s). -/
theorem conv_string (s : ByteArray) (w : World) : ∃ W1 cap, (convert 9 22 (.string s)).run Tryz.prog w = .ok (.slice (some ⟨w.heap.size, 0, none⟩) s.size cap) W1 ∧ Below w.heap.size w W1 ∧ ∀ (j : Nat) c, s.data.toList[j]? = some c → W1.cell? ⟨w.heap.size, j, none⟩ = some (.int .u8 c.toNat) := by
  refine ⟨_, _, Lib.run_convert_string_bytes w 9 22 5 s Tryz.underlying9 Tryz.underlying22 und_u8, ⟨rfl, rfl, rfl, by rw [Lib.bytesWorld_size]; omega, fun k hk => Lib.bytesWorld_at_old w _ s k hk⟩, fun j c hc => ?_⟩
  have hj := (List.getElem?_eq_some_iff.1 hc).1
  rw [size_list] at hj
  rw [Lib.bytesWorld_cell w _ s j hj, List.getD_eq_getElem?_getD, hc]
  rfl
theorem valueB_snoc (s : ByteArray) (k : Nat) (c : UInt8) (hc : s.data.toList[k]? = some c) : ((s.data.toList.take (k + 1)).all fun c => decide (32 ≤ c.toNat ∧ c.toNat ≤ 126)) = (((s.data.toList.take k).all fun c => decide (32 ≤ c.toNat ∧ c.toNat ≤ 126)) && decide (32 ≤ c.toNat ∧ c.toNat ≤ 126)) := by
  rw [List.take_add_one, hc, Option.toList_some, List.all_append]
  simp
theorem valueB_bad {s : ByteArray} {k : Nat} {c : UInt8} (hc : s.data.toList[k]? = some c) (h : ¬ (32 ≤ c.toNat ∧ c.toNat ≤ 126)) : valueB s = false := by
  unfold valueB
  have : (s.data.toList.all fun c => decide (32 ≤ c.toNat ∧ c.toNat ≤ 126)) = false := Bool.eq_false_iff.2 fun e => h (of_decide_eq_true (List.all_eq_true.1 e c (List.mem_of_getElem? hc)))
  rw [this, Bool.and_false]

set_option maxRecDepth 20000 in
set_option maxHeartbeats 1000000 in
theorem value_any (s : ByteArray) (w : World) (hs : s.size ≤ 9223372036854775807) : Calls Tryz.prog 144 #[.string s] w fun e w' => e = .returned (.bool (valueB s)) ∧ Below w.heap.size w w' := by
  obtain ⟨W1, cap, hcv, hb, hc⟩ := conv_string s w
  have HB := Lib.hid hb
  have HC := Lib.hid hc
  clear hb hc
  go_enter Tryz.func144, Tryz.ntmps144
  go_wp2_with fail
  clear hcv
  go_loopg [8] s.size (fun g kv wr => ∃ k : Nat, g = s.size - k ∧ kv = .int .i64 k ∧ k ≤ s.size ∧ wr = W1 ∧ Hid (((s.data.toList.take k).all fun c => decide (32 ≤ c.toNat ∧ c.toNat ≤ 126)) = true))
  case atStart => exact ⟨0, rfl, rfl, Nat.zero_le _, rfl, Lib.hid (by rw [List.take_zero]; rfl)⟩
  case round =>
    obtain ⟨k, hg, rfl, hk, rfl, HA⟩ := hrel
    have HG := Lib.hid hg
    clear hg
    by_cases hlt : k < s.size
    · have hk1 : (k : Int) < (s.size : Int) := by omega
      obtain ⟨c, hc⟩ : ∃ c, s.data.toList[k]? = some c := ⟨_, List.getElem?_eq_getElem (by rw [size_list]; exact hlt)⟩
      have c0 := HC.out k c hc
      have hcl := c.toNat_lt
      by_cases h1 : c.toNat < 32
      · have h1' : (c.toNat : Int) < 32 := by omega
        have HN := Lib.hid (valueB_bad hc (by omega))
        clear hc h1
        go_wp2_with fail
        go_ret
        exact ⟨by rw [HN.out]; rfl, HB.out⟩
      · have h1' : ¬ (c.toNat : Int) < 32 := by omega
        by_cases h2 : 126 < c.toNat
        · have h2' : (126 : Int) < (c.toNat : Int) := by omega
          have HN := Lib.hid (valueB_bad hc (by omega))
          clear hc h1 h2
          go_wp2_with fail
          go_ret
          exact ⟨by rw [HN.out]; rfl, HB.out⟩
        · have h2' : ¬ (126 : Int) < (c.toNat : Int) := by omega
          have HN : Hid (((s.data.toList.take (k + 1)).all fun c => decide (32 ≤ c.toNat ∧ c.toNat ≤ 126)) = true) := Lib.hid (by rw [valueB_snoc s k c hc, HA.out, Bool.true_and]; exact decide_eq_true (by omega))
          clear hc h1 h2 HA
          go_wp2_with fail
          go_roundg (s.size - (k + 1))
          case measure => rw [HG.out]; omega
          case rel => exact ⟨k + 1, rfl, by simp, by omega, rfl, HN⟩
    · obtain rfl : k = s.size := by omega
      have hk1 : ¬ (s.size : Int) < (s.size : Int) := by omega
      have HV : Hid (valueB s = decide (s.size ≤ 16)) := Lib.hid (by unfold valueB; have h := HA.out; rw [List.take_of_length_le (by rw [size_list]; exact Nat.le_refl _)] at h; rw [h, Bool.and_true])
      clear hlt HA
      by_cases h16 : s.size ≤ 16
      · have h16' : (s.size : Int) ≤ 16 := by omega
        go_wp2_with fail
        go_ret
        exact ⟨by rw [HV.out, decide_eq_true h16]; try rfl, HB.out⟩
      · have h16' : ¬ (s.size : Int) ≤ 16 := by omega
        go_wp2_with fail
        go_ret
        exact ⟨by rw [HV.out, decide_eq_false h16]; try rfl, HB.out⟩

end Go.Proofs.YtgmdimbiipemhaaGreatDoor
