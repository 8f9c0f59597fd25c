/- stemmaref08.field, text, deltas: contracts. -/
import Derived.Test.YtgmdimbiipemhaaGreatDoorEncP08
import Derived.Test.YtgmdimbiipemhaaGreatDoorBox08
namespace Go.Proofs.YtgmdimbiipemhaaGreatDoor
open Go.RowKit Go.Deep
set_option linter.unusedSimpArgs false
set_option linter.unusedVariables false

set_option maxRecDepth 20000 in
theorem rfield_any (o : OpD) (c : Nat) (hc : c < 21) (w : World) : Calls Tryz.prog 159 #[o.val, .int .i64 c] w fun e w' => e = .returned (.int .i64 (fld o c)) ∧ Below w.heap.size w w' := by
  unfold OpD.val
  obtain ⟨W1, hW1⟩ : ∃ W1, w.alloc (.cells o.cells.toArray 68) = W1 := ⟨_, rfl⟩
  have hb1 : Below w.heap.size w W1 := by rw [← hW1]; exact (Below.refl _ _).alloc (Nat.le_refl _) _
  have ho1 : OB w.heap.size o W1 := by rw [← hW1]; exact OB.new w o
  rcases (by omega : c = 0 ∨ c = 1 ∨ c = 2 ∨ c = 3 ∨ c = 4 ∨ c = 5 ∨ c = 6 ∨ c = 7 ∨ c = 8 ∨ c = 9 ∨ c = 10 ∨ c = 11 ∨ c = 12 ∨ c = 13 ∨ c = 14 ∨ c = 15 ∨ c = 16 ∨ c = 17 ∨ c = 18 ∨ c = 19 ∨ c = 20) with rfl | rfl | rfl | rfl | rfl | rfl | rfl | rfl | rfl | rfl | rfl | rfl | rfl | rfl | rfl | rfl | rfl | rfl | rfl | rfl | rfl
  · have cj := OB.cell ho1 (j := 0) rfl
    have HV := Lib.hid hb1
    clear ho1 hb1
    simp only [show (((0 : Nat) : Int)) = 0 from rfl]
    go_enter Tryz.func159, Tryz.ntmps159
    go_wp2_with fail
    go_ret
    exact ⟨rfl, HV.out⟩
  · have cj := OB.cell ho1 (j := 1) rfl
    have HV := Lib.hid hb1
    clear ho1 hb1
    simp only [show (((1 : Nat) : Int)) = 1 from rfl]
    go_enter Tryz.func159, Tryz.ntmps159
    go_wp2_with fail
    go_ret
    exact ⟨rfl, HV.out⟩
  · have cj := OB.cell ho1 (j := 2) rfl
    have HV := Lib.hid hb1
    clear ho1 hb1
    simp only [show (((2 : Nat) : Int)) = 2 from rfl]
    go_enter Tryz.func159, Tryz.ntmps159
    go_wp2_with fail
    go_ret
    exact ⟨rfl, HV.out⟩
  · have cj := OB.cell ho1 (j := 3) rfl
    have HV := Lib.hid hb1
    clear ho1 hb1
    simp only [show (((3 : Nat) : Int)) = 3 from rfl]
    go_enter Tryz.func159, Tryz.ntmps159
    go_wp2_with fail
    go_ret
    exact ⟨rfl, HV.out⟩
  · have cj := OB.cell ho1 (j := 4) rfl
    have HV := Lib.hid hb1
    clear ho1 hb1
    simp only [show (((4 : Nat) : Int)) = 4 from rfl]
    go_enter Tryz.func159, Tryz.ntmps159
    go_wp2_with fail
    go_ret
    exact ⟨rfl, HV.out⟩
  · have cj := OB.cell ho1 (j := 5) rfl
    have HV := Lib.hid hb1
    clear ho1 hb1
    simp only [show (((5 : Nat) : Int)) = 5 from rfl]
    go_enter Tryz.func159, Tryz.ntmps159
    go_wp2_with fail
    go_ret
    exact ⟨rfl, HV.out⟩
  · have cj := OB.cell ho1 (j := 6) rfl
    have HV := Lib.hid hb1
    clear ho1 hb1
    simp only [show (((6 : Nat) : Int)) = 6 from rfl]
    go_enter Tryz.func159, Tryz.ntmps159
    go_wp2_with fail
    go_ret
    exact ⟨rfl, HV.out⟩
  · have cj := OB.cell ho1 (j := 7) rfl
    have HV := Lib.hid hb1
    clear ho1 hb1
    simp only [show (((7 : Nat) : Int)) = 7 from rfl]
    go_enter Tryz.func159, Tryz.ntmps159
    go_wp2_with fail
    go_ret
    exact ⟨rfl, HV.out⟩
  · have cj := OB.cell ho1 (j := 8) rfl
    have HV := Lib.hid hb1
    clear ho1 hb1
    simp only [show (((8 : Nat) : Int)) = 8 from rfl]
    go_enter Tryz.func159, Tryz.ntmps159
    go_wp2_with fail
    go_ret
    exact ⟨rfl, HV.out⟩
  · have cj := OB.cell ho1 (j := 9) rfl
    have HV := Lib.hid hb1
    clear ho1 hb1
    simp only [show (((9 : Nat) : Int)) = 9 from rfl]
    go_enter Tryz.func159, Tryz.ntmps159
    go_wp2_with fail
    go_ret
    exact ⟨rfl, HV.out⟩
  · have cj := OB.cell ho1 (j := 10) rfl
    have HV := Lib.hid hb1
    clear ho1 hb1
    simp only [show (((10 : Nat) : Int)) = 10 from rfl]
    go_enter Tryz.func159, Tryz.ntmps159
    go_wp2_with fail
    go_ret
    exact ⟨rfl, HV.out⟩
  · have cj := OB.cell ho1 (j := 11) rfl
    have HV := Lib.hid hb1
    clear ho1 hb1
    simp only [show (((11 : Nat) : Int)) = 11 from rfl]
    go_enter Tryz.func159, Tryz.ntmps159
    go_wp2_with fail
    go_ret
    exact ⟨rfl, HV.out⟩
  · have cj := OB.cell ho1 (j := 12) rfl
    have HV := Lib.hid hb1
    clear ho1 hb1
    simp only [show (((12 : Nat) : Int)) = 12 from rfl]
    go_enter Tryz.func159, Tryz.ntmps159
    go_wp2_with fail
    go_ret
    exact ⟨rfl, HV.out⟩
  · have cj := OB.cell ho1 (j := 13) rfl
    have HV := Lib.hid hb1
    clear ho1 hb1
    simp only [show (((13 : Nat) : Int)) = 13 from rfl]
    go_enter Tryz.func159, Tryz.ntmps159
    go_wp2_with fail
    go_ret
    exact ⟨rfl, HV.out⟩
  · have cj := OB.cell ho1 (j := 14) rfl
    have HV := Lib.hid hb1
    clear ho1 hb1
    simp only [show (((14 : Nat) : Int)) = 14 from rfl]
    go_enter Tryz.func159, Tryz.ntmps159
    go_wp2_with fail
    go_ret
    exact ⟨rfl, HV.out⟩
  · have cj := OB.cell ho1 (j := 15) rfl
    have HV := Lib.hid hb1
    clear ho1 hb1
    simp only [show (((15 : Nat) : Int)) = 15 from rfl]
    go_enter Tryz.func159, Tryz.ntmps159
    go_wp2_with fail
    go_ret
    exact ⟨rfl, HV.out⟩
  · have cj := OB.cell ho1 (j := 16) rfl
    have HV := Lib.hid hb1
    clear ho1 hb1
    simp only [show (((16 : Nat) : Int)) = 16 from rfl]
    go_enter Tryz.func159, Tryz.ntmps159
    go_wp2_with fail
    go_ret
    exact ⟨rfl, HV.out⟩
  · have cj := OB.cell ho1 (j := 20) rfl
    have HV := Lib.hid hb1
    clear ho1 hb1
    simp only [show (((17 : Nat) : Int)) = 17 from rfl]
    go_enter Tryz.func159, Tryz.ntmps159
    go_wp2_with fail
    go_ret
    exact ⟨rfl, HV.out⟩
  · have cj := OB.cell ho1 (j := 21) rfl
    have HV := Lib.hid hb1
    clear ho1 hb1
    simp only [show (((18 : Nat) : Int)) = 18 from rfl]
    go_enter Tryz.func159, Tryz.ntmps159
    go_wp2_with fail
    go_ret
    exact ⟨rfl, HV.out⟩
  · have cj := OB.cell ho1 (j := 23) rfl
    have HV := Lib.hid hb1
    clear ho1 hb1
    simp only [show (((19 : Nat) : Int)) = 19 from rfl]
    go_enter Tryz.func159, Tryz.ntmps159
    go_wp2_with fail
    go_ret
    exact ⟨rfl, HV.out⟩
  · have cj := OB.cell ho1 (j := 24) rfl
    have HV := Lib.hid hb1
    clear ho1 hb1
    simp only [show (((20 : Nat) : Int)) = 20 from rfl]
    go_enter Tryz.func159, Tryz.ntmps159
    go_wp2_with fail
    go_ret
    exact ⟨rfl, HV.out⟩
set_option maxRecDepth 20000 in
theorem rtext_any (o : OpD) (c : Nat) (hc : c < 3) (w : World) : Calls Tryz.prog 161 #[o.val, .int .i64 c] w fun e w' => e = .returned (.string (txt o c)) ∧ Below w.heap.size w w' := by
  unfold OpD.val
  obtain ⟨W1, hW1⟩ : ∃ W1, w.alloc (.cells o.cells.toArray 68) = W1 := ⟨_, rfl⟩
  have hb1 : Below w.heap.size w W1 := by rw [← hW1]; exact (Below.refl _ _).alloc (Nat.le_refl _) _
  have ho1 : OB w.heap.size o W1 := by rw [← hW1]; exact OB.new w o
  rcases (by omega : c = 0 ∨ c = 1 ∨ c = 2) with rfl | rfl | rfl
  · have cj := OB.cell ho1 (j := 17) rfl
    have HV := Lib.hid hb1
    clear ho1 hb1
    simp only [show (((0 : Nat) : Int)) = 0 from rfl]
    go_enter Tryz.func161, Tryz.ntmps161
    go_wp2_with fail
    go_ret
    exact ⟨rfl, HV.out⟩
  · have cj := OB.cell ho1 (j := 18) rfl
    have HV := Lib.hid hb1
    clear ho1 hb1
    simp only [show (((1 : Nat) : Int)) = 1 from rfl]
    go_enter Tryz.func161, Tryz.ntmps161
    go_wp2_with fail
    go_ret
    exact ⟨rfl, HV.out⟩
  · have cj := OB.cell ho1 (j := 19) rfl
    have HV := Lib.hid hb1
    clear ho1 hb1
    simp only [show (((2 : Nat) : Int)) = 2 from rfl]
    go_enter Tryz.func161, Tryz.ntmps161
    go_wp2_with fail
    go_ret
    exact ⟨rfl, HV.out⟩
set_option maxRecDepth 20000 in
theorem rdeltas8_any (c : Nat) (hc : c < 21) (w : World) : Calls Tryz.prog 56 #[.int .i64 c] w fun e w' => e = .returned (.bool (dlt c)) ∧ w' = w := by
  rcases (by omega : c = 0 ∨ c = 1 ∨ c = 2 ∨ c = 3 ∨ c = 4 ∨ c = 5 ∨ c = 6 ∨ c = 7 ∨ c = 8 ∨ c = 9 ∨ c = 10 ∨ c = 11 ∨ c = 12 ∨ c = 13 ∨ c = 14 ∨ c = 15 ∨ c = 16 ∨ c = 17 ∨ c = 18 ∨ c = 19 ∨ c = 20) with rfl | rfl | rfl | rfl | rfl | rfl | rfl | rfl | rfl | rfl | rfl | rfl | rfl | rfl | rfl | rfl | rfl | rfl | rfl | rfl | rfl
  · simp only [show (((0 : Nat) : Int)) = 0 from rfl]
    go_enter Tryz.func56, Tryz.ntmps56
    go_wp2_with fail
    go_ret
    exact ⟨rfl, rfl⟩
  · simp only [show (((1 : Nat) : Int)) = 1 from rfl]
    go_enter Tryz.func56, Tryz.ntmps56
    go_wp2_with fail
    go_ret
    exact ⟨rfl, rfl⟩
  · simp only [show (((2 : Nat) : Int)) = 2 from rfl]
    go_enter Tryz.func56, Tryz.ntmps56
    go_wp2_with fail
    go_ret
    exact ⟨rfl, rfl⟩
  · simp only [show (((3 : Nat) : Int)) = 3 from rfl]
    go_enter Tryz.func56, Tryz.ntmps56
    go_wp2_with fail
    go_ret
    exact ⟨rfl, rfl⟩
  · simp only [show (((4 : Nat) : Int)) = 4 from rfl]
    go_enter Tryz.func56, Tryz.ntmps56
    go_wp2_with fail
    go_ret
    exact ⟨rfl, rfl⟩
  · simp only [show (((5 : Nat) : Int)) = 5 from rfl]
    go_enter Tryz.func56, Tryz.ntmps56
    go_wp2_with fail
    go_ret
    exact ⟨rfl, rfl⟩
  · simp only [show (((6 : Nat) : Int)) = 6 from rfl]
    go_enter Tryz.func56, Tryz.ntmps56
    go_wp2_with fail
    go_ret
    exact ⟨rfl, rfl⟩
  · simp only [show (((7 : Nat) : Int)) = 7 from rfl]
    go_enter Tryz.func56, Tryz.ntmps56
    go_wp2_with fail
    go_ret
    exact ⟨rfl, rfl⟩
  · simp only [show (((8 : Nat) : Int)) = 8 from rfl]
    go_enter Tryz.func56, Tryz.ntmps56
    go_wp2_with fail
    go_ret
    exact ⟨rfl, rfl⟩
  · simp only [show (((9 : Nat) : Int)) = 9 from rfl]
    go_enter Tryz.func56, Tryz.ntmps56
    go_wp2_with fail
    go_ret
    exact ⟨rfl, rfl⟩
  · simp only [show (((10 : Nat) : Int)) = 10 from rfl]
    go_enter Tryz.func56, Tryz.ntmps56
    go_wp2_with fail
    go_ret
    exact ⟨rfl, rfl⟩
  · simp only [show (((11 : Nat) : Int)) = 11 from rfl]
    go_enter Tryz.func56, Tryz.ntmps56
    go_wp2_with fail
    go_ret
    exact ⟨rfl, rfl⟩
  · simp only [show (((12 : Nat) : Int)) = 12 from rfl]
    go_enter Tryz.func56, Tryz.ntmps56
    go_wp2_with fail
    go_ret
    exact ⟨rfl, rfl⟩
  · simp only [show (((13 : Nat) : Int)) = 13 from rfl]
    go_enter Tryz.func56, Tryz.ntmps56
    go_wp2_with fail
    go_ret
    exact ⟨rfl, rfl⟩
  · simp only [show (((14 : Nat) : Int)) = 14 from rfl]
    go_enter Tryz.func56, Tryz.ntmps56
    go_wp2_with fail
    go_ret
    exact ⟨rfl, rfl⟩
  · simp only [show (((15 : Nat) : Int)) = 15 from rfl]
    go_enter Tryz.func56, Tryz.ntmps56
    go_wp2_with fail
    go_ret
    exact ⟨rfl, rfl⟩
  · simp only [show (((16 : Nat) : Int)) = 16 from rfl]
    go_enter Tryz.func56, Tryz.ntmps56
    go_wp2_with fail
    go_ret
    exact ⟨rfl, rfl⟩
  · simp only [show (((17 : Nat) : Int)) = 17 from rfl]
    go_enter Tryz.func56, Tryz.ntmps56
    go_wp2_with fail
    go_ret
    exact ⟨rfl, rfl⟩
  · simp only [show (((18 : Nat) : Int)) = 18 from rfl]
    go_enter Tryz.func56, Tryz.ntmps56
    go_wp2_with fail
    go_ret
    exact ⟨rfl, rfl⟩
  · simp only [show (((19 : Nat) : Int)) = 19 from rfl]
    go_enter Tryz.func56, Tryz.ntmps56
    go_wp2_with fail
    go_ret
    exact ⟨rfl, rfl⟩
  · simp only [show (((20 : Nat) : Int)) = 20 from rfl]
    go_enter Tryz.func56, Tryz.ntmps56
    go_wp2_with fail
    go_ret
    exact ⟨rfl, rfl⟩

end Go.Proofs.YtgmdimbiipemhaaGreatDoor
