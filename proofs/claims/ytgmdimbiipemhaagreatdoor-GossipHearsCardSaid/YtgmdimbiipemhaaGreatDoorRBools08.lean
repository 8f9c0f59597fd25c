/- The document's Bools: a contract. -/
import Derived.Test.YtgmdimbiipemhaaGreatDoorRVar08
import Derived.Test.YtgmdimbiipemhaaGreatDoorAppB08
import Derived.Deep.LoopGhost
import Derived.Deep.QuietTactic
import Derived.Deep.CutBlock
import Derived.Deep.DeepCutAuto
import Derived.IntWalk
import Derived.Lib.AppendZeros
namespace Go.Proofs.YtgmdimbiipemhaaGreatDoor
open Go.RowKit Go.Deep
set_option linter.unusedSimpArgs false
set_option linter.unusedVariables false

set_option maxRecDepth 20000 in
set_option maxHeartbeats 1000000 in
theorem rbools_any (v : Value) (l : List Bool) (w : World) (h : SliceIs btc 1 w v l) (hn : l.length ≤ 1000000000000) : Calls Tryz.prog 158 #[v] w fun e w' => BytesPost w (boolsB l) e w' := by
  obtain ⟨a, cap, rfl, hcap, hmax, -⟩ := id h
  unfold maxLen at hmax
  have HH := Lib.hid h
  have HL := Lib.hid (boolsB_len (l := l) (by omega))
  clear h
  go_enter Tryz.func158, Tryz.ntmps158
  go_wp2_with fail
  go_loopg [3, 4, 5] (2 * l.length + (if l.head? = some false then 0 else 1)) (fun g ov vv iv wr => ∃ (i : Nat) (s : Sl) (out : List UInt8) (v : Bool), g = 2 * (l.drop i).length + (if (l.drop i).head? = some v then 0 else 1) ∧ ov = .slice s.a s.n s.cap ∧ vv = .bool v ∧ iv = .int .i64 i ∧ i ≤ l.length ∧ Hid (boolsB l = out ++ boolsF v (l.drop i)) ∧ Hid (Own u8c 1 5 w.heap.size wr (.slice s.a s.n s.cap) out ∧ Below w.heap.size w wr))
  case atStart => exact ⟨0, ⟨none, 0, 0⟩, [], false, rfl, rfl, rfl, rfl, Nat.zero_le _, Lib.hid rfl, Lib.hid ⟨Own.nil, Below.refl _ _⟩⟩
  case round =>
    obtain ⟨i, ⟨sa, sn, sc⟩, out, v, hg, rfl, rfl, rfl, hil, HE, HU⟩ := hrel
    dsimp only at HU ⊢
    have HG := Lib.hid hg
    clear hg
    by_cases hlt : i < l.length
    · have hi1 : (i : Int) < (l.length : Int) := by omega
      go_wp2_with fail
      go_loopg [6] (l.length - i) (fun g kv wx => ∃ k : Nat, g = l.length - k ∧ kv = .int .i64 k ∧ i ≤ k ∧ k ≤ l.length ∧ Hid (k - i ≤ leadN v (l.drop i)) ∧ wx = wr)
      case atStart => exact ⟨i, rfl, rfl, Nat.le_refl _, by omega, Lib.hid (by omega), rfl⟩
      case round =>
        obtain ⟨k, hg2, rfl, hik, hkl, HC, rfl⟩ := hrel
        have HG2 := Lib.hid hg2
        clear hg2
        by_cases hk : k < l.length
        · have hk1 : (k : Int) < (l.length : Int) := by omega
          obtain ⟨x, hx⟩ : ∃ x, l[k]? = some x := ⟨_, List.getElem?_eq_getElem (by omega)⟩
          obtain ⟨bb, o, rfl, c0⟩ := (HH.out.below HU.out.2).at1 hx rfl
          have HX := Lib.hid (lead_go hik HC.out hx)
          clear hx
          by_cases hxv : x = v
          · have HC2 := Lib.hid (HX.out.1 hxv)
            clear HX
            subst hxv
            have hs1 : (x == x) = true := by simp
            go_wp2_with fail
            go_roundg (l.length - (k + 1))
            case measure => rw [HG2.out]; omega
            case rel => exact ⟨k + 1, rfl, by simp, by omega, by omega, HC2, rfl⟩
          · have HM := Lib.hid (HX.out.2 hxv)
            have hs1 : (x == v) = false := by simpa using hxv
            clear hxv
            obtain ⟨m, hm⟩ : ∃ m, m = k - i := ⟨_, rfl⟩
            have hsub : ((k : Nat) : Int) - (i : Int) = (m : Int) := by omega
            have hm64 : m < 18446744073709551616 := by omega
            have hmm : m = leadN v (l.drop i) := hm.trans HM.out
            have hne : l.drop i ≠ [] := fun e => by have := congrArg List.length e; rw [List.length_drop, List.length_nil] at this; omega
            have hdd : (l.drop i).drop (leadN v (l.drop i)) = l.drop k := by rw [List.drop_drop, ← hmm]; congr 1; omega
            have hE2 : boolsB l = (out ++ putB m) ++ boolsF (!v) (l.drop k) := by rw [HE.out, boolsF_cons hne, ← hmm, List.append_assoc, hmm, hdd]
            have HE2 := Lib.hid hE2
            have hms := bools_meas v hne
            rw [hdd] at hms
            have HMS := Lib.hid hms
            have hlen : out.length + (putB m).length ≤ 140737488355328 := by have h1 := HL.out; rw [hE2, List.length_append, List.length_append] at h1; omega
            have HLEN := Lib.hid hlen
            clear hm hmm hne hdd hE2 hms hlen
            go_wp2_with fail
            refine (rput_any m _ hm64).mono ?_
            rintro e w5 ⟨v5, rfl, hown5, b5⟩
            obtain ⟨⟨ta, tn, tc⟩, w6, hr6, own6, b6, hsz6⟩ := bytes_append (HU.out.1.below1 b5) (HU.out.2.trans (b5.mono HU.out.2.size)) (hown5.slice u8c_len) (Nat.le_trans HU.out.2.size b5.size) HLEN.out
            have HN := Lib.hid (And.intro own6 b6)
            clear own6 b6 hown5 b5 hsub
            go_wp2_with (at_builtin; refine Lib.wpList_append_run _ rfl _ _ _ _ rfl _ _ rfl rfl _ _ hr6 ?_)
            go_roundg (2 * (l.drop k).length + (if (l.drop k).head? = some (!v) then 0 else 1))
            case measure => rw [HG.out]; exact HMS.out
            case rel => exact ⟨k, ⟨ta, tn, tc⟩, _, !v, rfl, rfl, rfl, rfl, by omega, HE2, HN⟩
        · obtain rfl : k = l.length := by omega
          have hk1 : ¬ (l.length : Int) < (l.length : Int) := by omega
          have HM := Lib.hid (lead_end (by omega) HC.out)
          clear hk
          obtain ⟨m, hm⟩ : ∃ m, m = l.length - i := ⟨_, rfl⟩
          have hsub : ((l.length : Nat) : Int) - (i : Int) = (m : Int) := by omega
          have hm64 : m < 18446744073709551616 := by omega
          have hmm : m = leadN v (l.drop i) := hm.trans HM.out
          have hne : l.drop i ≠ [] := fun e => by have := congrArg List.length e; rw [List.length_drop, List.length_nil] at this; omega
          have hdd : (l.drop i).drop (leadN v (l.drop i)) = l.drop l.length := by rw [List.drop_drop, ← hmm]; congr 1; omega
          have hE2 : boolsB l = (out ++ putB m) ++ boolsF (!v) (l.drop l.length) := by rw [HE.out, boolsF_cons hne, ← hmm, List.append_assoc, hmm, hdd]
          have HE2 := Lib.hid hE2
          have hms := bools_meas v hne
          rw [hdd] at hms
          have HMS := Lib.hid hms
          have hlen : out.length + (putB m).length ≤ 140737488355328 := by have h1 := HL.out; rw [hE2, List.length_append, List.length_append] at h1; omega
          have HLEN := Lib.hid hlen
          clear hm hmm hne hdd hE2 hms hlen
          go_wp2_with fail
          refine (rput_any m _ hm64).mono ?_
          rintro e w5 ⟨v5, rfl, hown5, b5⟩
          obtain ⟨⟨ta, tn, tc⟩, w6, hr6, own6, b6, hsz6⟩ := bytes_append (HU.out.1.below1 b5) (HU.out.2.trans (b5.mono HU.out.2.size)) (hown5.slice u8c_len) (Nat.le_trans HU.out.2.size b5.size) HLEN.out
          have HN := Lib.hid (And.intro own6 b6)
          clear own6 b6 hown5 b5 hsub
          go_wp2_with (at_builtin; refine Lib.wpList_append_run _ rfl _ _ _ _ rfl _ _ rfl rfl _ _ hr6 ?_)
          go_roundg (2 * (l.drop l.length).length + (if (l.drop l.length).head? = some (!v) then 0 else 1))
          case measure => rw [HG.out]; exact HMS.out
          case rel => exact ⟨l.length, ⟨ta, tn, tc⟩, _, !v, rfl, rfl, rfl, rfl, by omega, HE2, HN⟩
    · obtain rfl : i = l.length := by omega
      have hi1 : ¬ (l.length : Int) < (l.length : Int) := by omega
      have HR : Hid (boolsB l = out) := Lib.hid (by rw [HE.out, List.drop_length, boolsF_nil, List.append_nil])
      clear hlt
      go_wp2_with fail
      go_ret
      exact ⟨_, rfl, by rw [HR.out]; exact HU.out.1, HU.out.2⟩

end Go.Proofs.YtgmdimbiipemhaaGreatDoor
