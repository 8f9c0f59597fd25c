/- The document's names, values, keys: contracts. -/
import Derived.Test.YtgmdimbiipemhaaGreatDoorStr08
import Derived.Deep.DeepCutAuto
import Derived.Deep.CutBlock
namespace Go.Proofs.YtgmdimbiipemhaaGreatDoor
open Go.RowKit Go.Deep
set_option linter.unusedSimpArgs false
set_option linter.unusedVariables false

theorem char_at {s : ByteArray} {k : Nat} (h : k < s.size) : s.data.toList[k]? = some s[k] := by
  have h2 : k < s.data.size := h
  rw [Array.getElem?_toList, Array.getElem?_eq_getElem h2]
  rfl
theorem all_take_snoc {l : List UInt8} {p : UInt8 → Prop} {k : Nat} {x : UInt8} (h : ∀ y ∈ l.take k, p y) (hx : l[k]? = some x) (hp : p x) : ∀ y ∈ l.take (k + 1), p y := by
  intro y hy
  rw [List.take_add_one, hx, Option.toList_some] at hy
  rcases List.mem_append.1 hy with hy | hy
  · exact h y hy
  · rw [List.mem_singleton.1 hy]; exact hp
theorem all_of_take {l : List UInt8} {p : UInt8 → Prop} [DecidablePred p] (h : ∀ y ∈ l.take l.length, p y) : (l.all fun c => decide (p c)) = true := by
  rw [List.take_length] at h
  exact List.all_eq_true.2 fun y hy => decide_eq_true (h y hy)
theorem not_all {l : List UInt8} {p : UInt8 → Prop} [DecidablePred p] {k : Nat} {x : UInt8} (hx : l[k]? = some x) (hp : ¬ p x) : (l.all fun c => decide (p c)) = false := by
  rw [Bool.eq_false_iff]
  intro h
  exact hp (of_decide_eq_true (List.all_eq_true.1 h x (List.mem_of_getElem? hx)))

set_option maxRecDepth 20000 in
set_option maxHeartbeats 1000000 in
theorem rword_any (s : ByteArray) (hs : s.size ≤ 9223372036854775807) (w : World) : Calls Tryz.prog 136 #[.string s] w fun e w' => e = .returned (.bool (nameB s)) ∧ w' = w := by
  go_enter Tryz.func136, Tryz.ntmps136
  go_wp2_with fail
  go_loopg [3] s.size (fun g kv wx => ∃ k : Nat, g = s.size - k ∧ kv = .int .i64 k ∧ k ≤ s.size ∧ wx = w ∧ Hid (∀ c ∈ s.data.toList.take k, 97 ≤ c.toNat ∧ c.toNat ≤ 122))
  case atStart => exact ⟨0, rfl, rfl, Nat.zero_le _, rfl, Lib.hid (fun x hx => by simp at hx)⟩
  case round =>
    obtain ⟨k, hg, rfl, hk, rfl, HR⟩ := hrel
    have HG := Lib.hid hg
    clear hg
    by_cases hlt : k < s.size
    · have hk1 : (k : Int) < (s.size : Int) := by omega
      have hk0 : (0 : Int) ≤ (k : Int) := by omega
      obtain ⟨c, hc⟩ : ∃ c, s[k] = c := ⟨_, rfl⟩
      have hx := char_at hlt
      rw [hc] at hx
      have HX := Lib.hid hx
      clear hx
      by_cases ha : c.toNat < 97
      · have ha1 : (c.toNat : Int) < 97 := by omega
        have HBAD : Hid (nameB s = false) := Lib.hid (by unfold nameB; rw [not_all (p := fun c => 97 ≤ c.toNat ∧ c.toNat ≤ 122) HX.out (by omega)]; simp)
        go_wp2_with fail
        go_ret
        exact ⟨by rw [HBAD.out]; rfl, rfl⟩
      · have ha1 : ¬ (c.toNat : Int) < 97 := by omega
        by_cases hb : 122 < c.toNat
        · have hb1 : (122 : Int) < (c.toNat : Int) := by omega
          have HBAD : Hid (nameB s = false) := Lib.hid (by unfold nameB; rw [not_all (p := fun c => 97 ≤ c.toNat ∧ c.toNat ≤ 122) HX.out (by omega)]; simp)
          go_wp2_with fail
          go_ret
          exact ⟨by rw [HBAD.out]; rfl, rfl⟩
        · have hb1 : ¬ (122 : Int) < (c.toNat : Int) := by omega
          have HN : Hid (∀ c ∈ s.data.toList.take (k + 1), 97 ≤ c.toNat ∧ c.toNat ≤ 122) := Lib.hid (all_take_snoc HR.out HX.out (by omega))
          go_wp2_with fail
          go_roundg (s.size - (k + 1))
          case measure => rw [HG.out]; omega
          case rel => exact ⟨k + 1, rfl, by simp, by omega, rfl, HN⟩
    · obtain rfl : k = s.size := by omega
      have hk1 : ¬ (s.size : Int) < (s.size : Int) := by omega
      have hall := all_of_take (p := fun c => 97 ≤ c.toNat ∧ c.toNat ≤ 122) (by have h := HR.out; rwa [← size_list] at h)
      by_cases h1 : 1 ≤ s.size
      · have h11 : (1 : Int) ≤ (s.size : Int) := by omega
        by_cases h2 : s.size ≤ 8
        · have h21 : (s.size : Int) ≤ 8 := by omega
          have HE : Hid (nameB s = true) := Lib.hid (by unfold nameB; rw [hall, decide_eq_true (by omega)]; rfl)
          clear hall
          go_wp2_with fail
          go_ret
          exact ⟨by rw [HE.out]; rfl, rfl⟩
        · have h21 : ¬ (s.size : Int) ≤ 8 := by omega
          have HE : Hid (nameB s = false) := Lib.hid (by unfold nameB; rw [decide_eq_false (by omega)]; rfl)
          clear hall
          go_wp2_with fail
          go_ret
          exact ⟨by rw [HE.out]; rfl, rfl⟩
      · have h11 : ¬ (1 : Int) ≤ (s.size : Int) := by omega
        have HE : Hid (nameB s = false) := Lib.hid (by unfold nameB; rw [decide_eq_false (by omega)]; rfl)
        clear hall
        go_wp2_with fail
        go_ret
        exact ⟨by rw [HE.out]; rfl, rfl⟩

set_option maxRecDepth 20000 in
set_option maxHeartbeats 1000000 in
theorem rvalue_any (s : ByteArray) (hs : s.size ≤ 9223372036854775807) (w : World) : Calls Tryz.prog 137 #[.string s] w fun e w' => e = .returned (.bool (valueB s)) ∧ w' = w := by
  go_enter Tryz.func137, Tryz.ntmps137
  go_wp2_with fail
  go_loopg [3] s.size (fun g kv wx => ∃ k : Nat, g = s.size - k ∧ kv = .int .i64 k ∧ k ≤ s.size ∧ wx = w ∧ Hid (∀ c ∈ s.data.toList.take k, 32 ≤ c.toNat ∧ c.toNat ≤ 126))
  case atStart => exact ⟨0, rfl, rfl, Nat.zero_le _, rfl, Lib.hid (fun x hx => by simp at hx)⟩
  case round =>
    obtain ⟨k, hg, rfl, hk, rfl, HR⟩ := hrel
    have HG := Lib.hid hg
    clear hg
    by_cases hlt : k < s.size
    · have hk1 : (k : Int) < (s.size : Int) := by omega
      have hk0 : (0 : Int) ≤ (k : Int) := by omega
      obtain ⟨c, hc⟩ : ∃ c, s[k] = c := ⟨_, rfl⟩
      have hx := char_at hlt
      rw [hc] at hx
      have HX := Lib.hid hx
      clear hx
      by_cases ha : c.toNat < 32
      · have ha1 : (c.toNat : Int) < 32 := by omega
        have HBAD : Hid (valueB s = false) := Lib.hid (by unfold valueB; rw [not_all (p := fun c => 32 ≤ c.toNat ∧ c.toNat ≤ 126) HX.out (by omega)]; simp)
        go_wp2_with fail
        go_ret
        exact ⟨by rw [HBAD.out]; rfl, rfl⟩
      · have ha1 : ¬ (c.toNat : Int) < 32 := by omega
        by_cases hb : 126 < c.toNat
        · have hb1 : (126 : Int) < (c.toNat : Int) := by omega
          have HBAD : Hid (valueB s = false) := Lib.hid (by unfold valueB; rw [not_all (p := fun c => 32 ≤ c.toNat ∧ c.toNat ≤ 126) HX.out (by omega)]; simp)
          go_wp2_with fail
          go_ret
          exact ⟨by rw [HBAD.out]; rfl, rfl⟩
        · have hb1 : ¬ (126 : Int) < (c.toNat : Int) := by omega
          have HN : Hid (∀ c ∈ s.data.toList.take (k + 1), 32 ≤ c.toNat ∧ c.toNat ≤ 126) := Lib.hid (all_take_snoc HR.out HX.out (by omega))
          go_wp2_with fail
          go_roundg (s.size - (k + 1))
          case measure => rw [HG.out]; omega
          case rel => exact ⟨k + 1, rfl, by simp, by omega, rfl, HN⟩
    · obtain rfl : k = s.size := by omega
      have hk1 : ¬ (s.size : Int) < (s.size : Int) := by omega
      have hall := all_of_take (p := fun c => 32 ≤ c.toNat ∧ c.toNat ≤ 126) (by have h := HR.out; rwa [← size_list] at h)
      by_cases h2 : s.size ≤ 16
      · have h21 : (s.size : Int) ≤ 16 := by omega
        have HE : Hid (valueB s = true) := Lib.hid (by unfold valueB; rw [hall, decide_eq_true (by omega)]; rfl)
        clear hall
        go_wp2_with fail
        go_ret
        exact ⟨by rw [HE.out]; rfl, rfl⟩
      · have h21 : ¬ (s.size : Int) ≤ 16 := by omega
        have HE : Hid (valueB s = false) := Lib.hid (by unfold valueB; rw [decide_eq_false (by omega)]; rfl)
        clear hall
        go_wp2_with fail
        go_ret
        exact ⟨by rw [HE.out]; rfl, rfl⟩

set_option maxRecDepth 20000 in
set_option maxHeartbeats 1000000 in
theorem rkey_any (s : ByteArray) (hs : s.size ≤ 9223372036854775807) (w : World) : Calls Tryz.prog 135 #[.string s] w fun e w' => e = .returned (.bool (keyB s)) ∧ w' = w := by
  go_enter Tryz.func135, Tryz.ntmps135
  go_wp2_with fail
  go_loopg [3] s.size (fun g kv wx => ∃ k : Nat, g = s.size - k ∧ kv = .int .i64 k ∧ k ≤ s.size ∧ wx = w ∧ Hid (∀ c ∈ s.data.toList.take k, 48 ≤ c.toNat ∧ c.toNat ≤ 57 ∨ 97 ≤ c.toNat ∧ c.toNat ≤ 122))
  case atStart => exact ⟨0, rfl, rfl, Nat.zero_le _, rfl, Lib.hid (fun x hx => by simp at hx)⟩
  case round =>
    obtain ⟨k, hg, rfl, hk, rfl, HR⟩ := hrel
    have HG := Lib.hid hg
    clear hg
    by_cases hlt : k < s.size
    · have hk1 : (k : Int) < (s.size : Int) := by omega
      have hk0 : (0 : Int) ≤ (k : Int) := by omega
      obtain ⟨c, hc⟩ : ∃ c, s[k] = c := ⟨_, rfl⟩
      have hx := char_at hlt
      rw [hc] at hx
      have HX := Lib.hid hx
      clear hx
      by_cases ha : 48 ≤ c.toNat
      · have ha1 : (48 : Int) ≤ (c.toNat : Int) := by omega
        by_cases hb : c.toNat ≤ 57
        · have hb1 : (c.toNat : Int) ≤ 57 := by omega
          have HN : Hid (∀ c ∈ s.data.toList.take (k + 1), 48 ≤ c.toNat ∧ c.toNat ≤ 57 ∨ 97 ≤ c.toNat ∧ c.toNat ≤ 122) := Lib.hid (all_take_snoc HR.out HX.out (by omega))
          go_wp2_with fail
          go_roundg (s.size - (k + 1))
          case measure => rw [HG.out]; omega
          case rel => exact ⟨k + 1, rfl, by simp, by omega, rfl, HN⟩
        · have hb1 : ¬ (c.toNat : Int) ≤ 57 := by omega
          by_cases hd : 97 ≤ c.toNat
          · have hd1 : (97 : Int) ≤ (c.toNat : Int) := by omega
            by_cases he : c.toNat ≤ 122
            · have he1 : (c.toNat : Int) ≤ 122 := by omega
              have HN : Hid (∀ c ∈ s.data.toList.take (k + 1), 48 ≤ c.toNat ∧ c.toNat ≤ 57 ∨ 97 ≤ c.toNat ∧ c.toNat ≤ 122) := Lib.hid (all_take_snoc HR.out HX.out (by omega))
              go_wp2_with fail
              go_roundg (s.size - (k + 1))
              case measure => rw [HG.out]; omega
              case rel => exact ⟨k + 1, rfl, by simp, by omega, rfl, HN⟩
            · have he1 : ¬ (c.toNat : Int) ≤ 122 := by omega
              have HBAD : Hid (keyB s = false) := Lib.hid (by unfold keyB; rw [not_all (p := fun c => 48 ≤ c.toNat ∧ c.toNat ≤ 57 ∨ 97 ≤ c.toNat ∧ c.toNat ≤ 122) HX.out (by omega)]; simp)
              go_wp2_with fail
              go_ret
              exact ⟨by rw [HBAD.out]; rfl, rfl⟩
          · have hd1 : ¬ (97 : Int) ≤ (c.toNat : Int) := by omega
            have HBAD : Hid (keyB s = false) := Lib.hid (by unfold keyB; rw [not_all (p := fun c => 48 ≤ c.toNat ∧ c.toNat ≤ 57 ∨ 97 ≤ c.toNat ∧ c.toNat ≤ 122) HX.out (by omega)]; simp)
            go_wp2_with fail
            go_ret
            exact ⟨by rw [HBAD.out]; rfl, rfl⟩
      · have ha1 : ¬ (48 : Int) ≤ (c.toNat : Int) := by omega
        have HBAD : Hid (keyB s = false) := Lib.hid (by unfold keyB; rw [not_all (p := fun c => 48 ≤ c.toNat ∧ c.toNat ≤ 57 ∨ 97 ≤ c.toNat ∧ c.toNat ≤ 122) HX.out (by omega)]; simp)
        go_wp2_with fail
        go_ret
        exact ⟨by rw [HBAD.out]; rfl, rfl⟩
    · obtain rfl : k = s.size := by omega
      have hk1 : ¬ (s.size : Int) < (s.size : Int) := by omega
      have hall := all_of_take (p := fun c => 48 ≤ c.toNat ∧ c.toNat ≤ 57 ∨ 97 ≤ c.toNat ∧ c.toNat ≤ 122) (by have h := HR.out; rwa [← size_list] at h)
      by_cases h1 : 1 ≤ s.size
      · have h11 : (1 : Int) ≤ (s.size : Int) := by omega
        by_cases h2 : s.size ≤ 64
        · have h21 : (s.size : Int) ≤ 64 := by omega
          have hlast : s.data.toList.getLast? = some (s[s.size - 1]) := by rw [List.getLast?_eq_getElem?, size_list]; exact char_at (by omega)
          obtain ⟨c, hc⟩ : ∃ c, s[s.size - 1] = c := ⟨_, rfl⟩
          rw [hc] at hlast
          have hidx : ((s.size : Int) - 1) = ((s.size - 1 : Nat) : Int) := by omega
          by_cases h3 : c.toNat = 48
          · have h31 : (c.toNat : Int) = 48 := by omega
            have hc48 : c = 48 := UInt8.toNat_inj.1 h3
            have HE : Hid (keyB s = false) := Lib.hid (by unfold keyB; rw [hlast, hc48]; simp)
            clear hall hlast hc48 h3
            go_wp2_with fail
            go_ret
            exact ⟨by rw [HE.out]; rfl, rfl⟩
          · have h31 : ¬ (c.toNat : Int) = 48 := by omega
            have hc48 : c ≠ 48 := fun e => h3 (by rw [e]; rfl)
            have HE : Hid (keyB s = true) := Lib.hid (by unfold keyB; rw [hall, hlast, decide_eq_true (by omega), decide_eq_true (by simpa using hc48)]; rfl)
            clear hall hlast hc48 h3
            go_wp2_with fail
            go_ret
            exact ⟨by rw [HE.out]; first | rfl | (simp; done) | (simp; omega), rfl⟩
        · have h21 : ¬ (s.size : Int) ≤ 64 := by omega
          have HE : Hid (keyB s = false) := Lib.hid (by unfold keyB; rw [decide_eq_false (by omega)]; rfl)
          clear hall
          go_wp2_with fail
          go_ret
          exact ⟨by rw [HE.out]; rfl, rfl⟩
      · have h11 : ¬ (1 : Int) ≤ (s.size : Int) := by omega
        have HE : Hid (keyB s = false) := Lib.hid (by unfold keyB; rw [decide_eq_false (by omega)]; rfl)
        clear hall
        go_wp2_with fail
        go_ret
        exact ⟨by rw [HE.out]; rfl, rfl⟩

end Go.Proofs.YtgmdimbiipemhaaGreatDoor
