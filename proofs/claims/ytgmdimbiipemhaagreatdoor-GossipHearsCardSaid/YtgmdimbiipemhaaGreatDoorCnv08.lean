/- Bytes as a text; what begins the bytes. -/
import Derived.Test.YtgmdimbiipemhaaGreatDoorU8
import Derived.Test.YtgmdimbiipemhaaGreatDoorVarP08
import Derived.Laws.BytesString
import Derived.Lib.SlBytesConst
namespace Go.Proofs.YtgmdimbiipemhaaGreatDoor
open Go.RowKit Go.Deep
set_option linter.unusedSimpArgs false
set_option linter.unusedVariables false

theorem eq_bytes (a b : ByteArray) : a.toList = b.toList ↔ a = b := by
  rw [ByteArray.toList_eq, ByteArray.toList_eq]
  constructor
  · intro h
    obtain ⟨x⟩ := a
    obtain ⟨y⟩ := b
    exact congrArg ByteArray.mk (Array.toList_inj.1 h)
  · intro h; rw [h]

theorem und_string : Tryz.prog.underlying 9 = some .string := by kernel_rfl
theorem beq_bytes (a b : ByteArray) : (a == b) = decide (a = b) := by
  rw [show (a == b) = (a.data == b.data) from by cases a; cases b; rfl]
  by_cases h : a = b
  · subst h; simp
  · have : ¬ a.data = b.data := fun e => h (by cases a; cases b; cases e; rfl)
    simp [h, this]

theorem fold_push : ∀ (bs : List UInt8) (s : ByteArray), (bs.map fun x => (x.toNat : Int)).foldl (fun r n => r.push (UInt8.ofNat n.toNat)) s = ⟨(s.data.toList ++ bs).toArray⟩
  | [], s => by cases s; simp
  | b :: bs, s => by
    rw [List.map_cons, List.foldl_cons, fold_push bs]
    congr 1
    simp [ByteArray.push]

/-- string(b). -/
theorem conv_bytes {W : World} {v : Value} {bs : List UInt8} (h : SliceIs u8c 1 W v bs) : (convert 22 9 v).run Tryz.prog W = .ok (.string ⟨bs.toArray⟩) W := by
  obtain ⟨a, cap, rfl, hcap, hmax, hcs⟩ := h
  rw [run_convert_bytes_string W 22 9 5 a bs.length cap Tryz.underlying22 (by kernel_rfl) Tryz.underlying9]
  cases a with
  | none =>
    have hys : bs = [] := Classical.byContradiction fun hn => by obtain ⟨b, o, e, _⟩ := hcs hn; cases e
    subst hys
    simp [Conv.bytesToString]
    rfl
  | some ad =>
    have hl := run_loadCells_list (P := Tryz.prog) W ad ((bs.map fun x => (x.toNat : Int)).map (Value.int .u8)) (fun j v hj => by
      rw [List.map_map, List.getElem?_map] at hj
      cases hb : bs[j]? with
      | none => rw [hb] at hj; cases hj
      | some x =>
        rw [hb] at hj
        cases hj
        obtain ⟨b, o, e, h4⟩ := hcs (by rintro rfl; simp at hb)
        cases e
        have := h4 j x hb 0 _ rfl
        rw [Nat.mul_one, Nat.add_zero] at this
        rw [show (Addr.add ⟨b, o, none⟩ j) = ⟨b, o + j, none⟩ from by unfold Addr.add; split <;> simp_all]
        exact this)
    have := run_bytesToString (P := Tryz.prog) W ad bs.length cap (bs.map fun x => (x.toNat : Int)) (by simpa using hl)
    rw [this, fold_push]
    simp

theorem SliceIs.take1 {α : Type} {ea : α → List Value} {q : Nat} {w : World} {a : Option Addr} {cap n k : Nat} {l : List α} (h : SliceIs ea q w (.slice a n cap) l) (hn : k ≤ l.length) : SliceIs ea q w (.slice a k cap) (l.take k) := by
  obtain ⟨a', cap', e, hc, hm, h4⟩ := h
  cases e
  have e : (l.take k).length = k := by rw [List.length_take]; omega
  refine ⟨a, cap, by rw [e], by omega, hm, fun hl => ?_⟩
  obtain ⟨b, off, h5, h6⟩ := h4 (by rintro rfl; simp at hl)
  refine ⟨b, off, h5, fun i x hi j u hj => h6 i x ?_ j u hj⟩
  rw [List.getElem?_take] at hi
  split at hi
  · exact hi
  · cases hi
theorem str_ne {l1 l2 : List UInt8} (he : l1 ≠ l2) : ((⟨l1.toArray⟩ : ByteArray) == ⟨l2.toArray⟩) = false ∧ ((⟨l1.toArray⟩ : ByteArray).toList == (⟨l2.toArray⟩ : ByteArray).toList) = false := by
  have h : (⟨l1.toArray⟩ : ByteArray) ≠ ⟨l2.toArray⟩ := fun e => he (by cases e; rfl)
  refine ⟨by rw [beq_bytes]; simp [h], ?_⟩
  cases hh : ((⟨l1.toArray⟩ : ByteArray).toList == (⟨l2.toArray⟩ : ByteArray).toList) with
  | false => rfl
  | true => exact absurd ((eq_bytes _ _).1 (by simpa using hh)) h
/-- The only number that may begin the bytes. -/
theorem Goes.only {b : List UInt8} {i n : Nat} {x : UInt8} (h : Goes b i) (hx : b[i]? = some x) (hl : x.toNat < 128) (hn : TakeIs b n) : putB n = b.take (i + 1) ∧ valB (b.take (i + 1)) = n := by
  obtain ⟨hn1, hp⟩ := hn
  obtain ⟨l, y, h1, h2, h3, h4, h5⟩ := putB_shape n
  rw [h1] at hp ⊢
  have hget : ∀ j z, (l ++ [y])[j]? = some z → b[j]? = some z := fun j z hz => by
    obtain ⟨t, rfl⟩ := hp
    rw [List.getElem?_append_left (List.getElem?_eq_some_iff.1 hz).1]
    exact hz
  have hyl := hget l.length y (by simp)
  have hll : ¬ l.length < i := fun hlt => by
    have := h.2 l.length y hlt hyl
    omega
  have hgg : ¬ i < l.length := fun hlt => by
    obtain ⟨z, hz⟩ : ∃ z, l[i]? = some z := ⟨_, List.getElem?_eq_getElem hlt⟩
    have := hget i z (by rw [List.getElem?_append_left hlt]; exact hz)
    rw [hx] at this
    cases this
    have := h2 x (List.mem_of_getElem? hz)
    omega
  have hil : i = l.length := by omega
  subst hil
  have e : l ++ [y] = b.take (l.length + 1) := by
    obtain ⟨t, rfl⟩ := hp
    rw [List.take_append_of_le_length (by simp), List.take_of_length_le (by simp)]
  exact ⟨e, by rw [← e]; exact h5⟩

end Go.Proofs.YtgmdimbiipemhaaGreatDoor
