/- Frames, plain: bytes with a mark, a length and a sum. Bits of numbers of 32 bits. Sums of bytes: contracts. Slice expressions on slices of a row; copy into a row of the call's own. Contract of bytes.Clone. Numbers of four bytes; the document's sum: contracts. Frames: contracts of get, summed and Wrap. Frames: the contract of Take. errors.As at a *fault of package gossip. Messages, plain: what a message says, and how it is said. gossip.numbers: a contract. gossip.heard, Hear: contracts. gossip.Hear: a contract. -/
import Derived.Test.YtgmdimbiipemhaaGreatDoorVarP08
import Derived.Test.YtgmdimbiipemhaaGreatDoorBits08
import Derived.Test.YtgmdimbiipemhaaGreatDoorVar08
import Derived.Test.YtgmdimbiipemhaaGreatDoorAppNew
import Derived.Deep.QuietTactic
import Derived.Deep.LoopGhost
import Derived.Test.YtgmdimbiipemhaaGreatDoorTkP08
import Derived.Test.YtgmdimbiipemhaaGreatDoorHeUA
import Derived.Laws.CopyRow
import Derived.Lib.BufferWrite
import Derived.Lib.SliceRun
import Derived.Test.YtgmdimbiipemhaaGreatDoorHeldT
import Derived.Deep.CutBlock
import Derived.Deep.DeepCutAuto
import Derived.Laws.MakeOwn
import Derived.Test.YtgmdimbiipemhaaGreatDoorHeUD
import Derived.Test.YtgmdimbiipemhaaGreatDoorRVar08
import Derived.Laws.Rows
import Derived.Laws.Tables
namespace Go.Proofs.YtgmdimbiipemhaaGreatDoor
set_option linter.unusedSimpArgs false
set_option linter.unusedVariables false
def crcS (s : Nat) : Nat := if s % 2 = 1 then (s / 2) ^^^ 2197175160 else s / 2
def crcK : Nat → Nat → Nat
  | 0, s => s
  | k + 1, s => crcS (crcK k s)
def crcX (s : Nat) (x : UInt8) : Nat := crcK 8 (s ^^^ x.toNat)
def crcL (l : List UInt8) : Nat := l.foldl crcX 4294967295
def crcB (l : List UInt8) : Nat := 4294967295 - crcL l
theorem xor_lt32 {a b : Nat} (ha : a < 4294967296) (hb : b < 4294967296) : a ^^^ b < 4294967296 := Nat.xor_lt_two_pow (n := 32) ha hb
theorem crcS_lt {s : Nat} (h : s < 4294967296) : crcS s < 4294967296 := by
  unfold crcS
  split
  · exact xor_lt32 (by omega) (by omega)
  · omega
theorem crcK_lt {s : Nat} (h : s < 4294967296) : ∀ k, crcK k s < 4294967296
  | 0 => h
  | k + 1 => crcS_lt (crcK_lt h k)
theorem crcX_lt {s : Nat} (h : s < 4294967296) (x : UInt8) : crcX s x < 4294967296 := crcK_lt (xor_lt32 h (by have := x.toNat_lt; omega)) 8
theorem crcL_snoc (l : List UInt8) (x : UInt8) : crcL (l ++ [x]) = crcX (crcL l) x := by unfold crcL; rw [List.foldl_append]; rfl
theorem crcF_lt : ∀ (l : List UInt8) (s : Nat), s < 4294967296 → l.foldl crcX s < 4294967296
  | [], s, h => h
  | x :: l, s, h => by rw [List.foldl_cons]; exact crcF_lt l _ (crcX_lt h x)
theorem crcL_lt (l : List UInt8) : crcL l < 4294967296 := crcF_lt l _ (by omega)
theorem crcB_lt (l : List UInt8) : crcB l < 4294967296 := by unfold crcB; omega
theorem crcL_take {l : List UInt8} {i : Nat} {x : UInt8} (hx : l[i]? = some x) : crcL (l.take (i + 1)) = crcX (crcL (l.take i)) x := by
  rw [List.take_add_one, hx, Option.toList_some, crcL_snoc]
def fourB (n : Nat) : List UInt8 := [UInt8.ofNat (n % 256), UInt8.ofNat (n / 256 % 256), UInt8.ofNat (n / 65536 % 256), UInt8.ofNat (n / 16777216 % 256)]
def fourV (a b c d : UInt8) : Nat := a.toNat + b.toNat * 256 + c.toNat * 65536 + d.toNat * 16777216
theorem fourB_len (n : Nat) : (fourB n).length = 4 := rfl
theorem u8_back (x : UInt8) : UInt8.ofNat x.toNat = x := by simp
theorem fourB_V (a b c d : UInt8) : fourB (fourV a b c d) = [a, b, c, d] := by
  have ha := a.toNat_lt
  have hb := b.toNat_lt
  have hc := c.toNat_lt
  have hd := d.toNat_lt
  unfold fourB fourV
  have e0 : (a.toNat + b.toNat * 256 + c.toNat * 65536 + d.toNat * 16777216) % 256 = a.toNat := by omega
  have e1 : (a.toNat + b.toNat * 256 + c.toNat * 65536 + d.toNat * 16777216) / 256 % 256 = b.toNat := by omega
  have e2 : (a.toNat + b.toNat * 256 + c.toNat * 65536 + d.toNat * 16777216) / 65536 % 256 = c.toNat := by omega
  have e3 : (a.toNat + b.toNat * 256 + c.toNat * 65536 + d.toNat * 16777216) / 16777216 % 256 = d.toNat := by omega
  rw [e0, e1, e2, e3, u8_back, u8_back, u8_back, u8_back]
theorem fourV_B {n : Nat} (h : n < 4294967296) : fourV (UInt8.ofNat (n % 256)) (UInt8.ofNat (n / 256 % 256)) (UInt8.ofNat (n / 65536 % 256)) (UInt8.ofNat (n / 16777216 % 256)) = n := by
  unfold fourV
  rw [u8_nat (by omega), u8_nat (by omega), u8_nat (by omega), u8_nat (by omega)]
  omega
def headB (k : UInt8) (body : List UInt8) : List UInt8 := k :: fourB body.length
def wrapB (k : UInt8) (body : List UInt8) : List UInt8 := 83 :: 84 :: (headB k body ++ (fourB (crcB (headB k body ++ body)) ++ body))
theorem wrapB_len (k : UInt8) (body : List UInt8) : (wrapB k body).length = 11 + body.length := by simp [wrapB, headB, fourB]; omega
def FrameIs (b : List UInt8) (k : UInt8) (body : List UInt8) : Prop := body.length ≤ 65536 ∧ wrapB k body <+: b
def takeF (b : List UInt8) : Option (UInt8 × List UInt8) := match b with
  | m0 :: m1 :: k :: a0 :: a1 :: a2 :: a3 :: s0 :: s1 :: s2 :: s3 :: r => if m0 = 83 ∧ m1 = 84 ∧ fourV a0 a1 a2 a3 ≤ 65536 ∧ fourV a0 a1 a2 a3 ≤ r.length ∧ fourV s0 s1 s2 s3 = crcB ([k, a0, a1, a2, a3] ++ r.take (fourV a0 a1 a2 a3)) then some (k, r.take (fourV a0 a1 a2 a3)) else none
  | _ => none
theorem takeF_eq (m0 m1 k a0 a1 a2 a3 s0 s1 s2 s3 : UInt8) (r : List UInt8) : takeF (m0 :: m1 :: k :: a0 :: a1 :: a2 :: a3 :: s0 :: s1 :: s2 :: s3 :: r) = if m0 = 83 ∧ m1 = 84 ∧ fourV a0 a1 a2 a3 ≤ 65536 ∧ fourV a0 a1 a2 a3 ≤ r.length ∧ fourV s0 s1 s2 s3 = crcB ([k, a0, a1, a2, a3] ++ r.take (fourV a0 a1 a2 a3)) then some (k, r.take (fourV a0 a1 a2 a3)) else none := by unfold takeF; rfl
theorem eleven {b : List UInt8} (h : 11 ≤ b.length) : ∃ m0 m1 k a0 a1 a2 a3 s0 s1 s2 s3 r, b = m0 :: m1 :: k :: a0 :: a1 :: a2 :: a3 :: s0 :: s1 :: s2 :: s3 :: r := by
  match b, h with
  | m0 :: m1 :: k :: a0 :: a1 :: a2 :: a3 :: s0 :: s1 :: s2 :: s3 :: r, _ => exact ⟨m0, m1, k, a0, a1, a2, a3, s0, s1, s2, s3, r, rfl⟩
theorem takeF_short {b : List UInt8} (h : b.length < 11) : takeF b = none := by
  unfold takeF
  split
  · simp at h; omega
  · rfl
theorem wrapB_of {k : UInt8} {body h4 s4 : List UInt8} (e1 : fourB body.length = h4) (e2 : fourB (crcB ((k :: h4) ++ body)) = s4) : wrapB k body = 83 :: 84 :: ((k :: h4) ++ (s4 ++ body)) := by
  subst e1
  subst e2
  rfl
theorem frame_e1 {a0 a1 a2 a3 : UInt8} {n : Nat} (hn : n = fourV a0 a1 a2 a3) {r : List UInt8} (h2 : n ≤ r.length) : fourB (r.take n).length = [a0, a1, a2, a3] := by
  rw [List.length_take, Nat.min_eq_left h2, hn]
  exact fourB_V _ _ _ _
theorem frame_fin (a0 a1 a2 a3 s0 s1 s2 s3 k : UInt8) (r : List UInt8) (n : Nat) : 83 :: 84 :: ((k :: [a0, a1, a2, a3]) ++ ([s0, s1, s2, s3] ++ r.take n)) ++ r.drop n = 83 :: 84 :: k :: a0 :: a1 :: a2 :: a3 :: s0 :: s1 :: s2 :: s3 :: r := by
  simp only [List.cons_append, List.nil_append, List.take_append_drop]
theorem frame_mk {k a0 a1 a2 a3 s0 s1 s2 s3 : UInt8} {r : List UInt8} {n c : Nat} (hn : n = fourV a0 a1 a2 a3) (h2 : n ≤ r.length) (hc : c = fourV s0 s1 s2 s3) (h3 : crcB ((k :: [a0, a1, a2, a3]) ++ r.take n) = c) :
    wrapB k (r.take n) ++ r.drop n = 83 :: 84 :: k :: a0 :: a1 :: a2 :: a3 :: s0 :: s1 :: s2 :: s3 :: r := by
  rw [wrapB_of (frame_e1 hn h2) ((congrArg fourB (h3.trans hc)).trans (fourB_V _ _ _ _))]
  exact frame_fin _ _ _ _ _ _ _ _ _ _ _
theorem takeF_is {b : List UInt8} {k : UInt8} {body : List UInt8} (h : takeF b = some (k, body)) : FrameIs b k body := by
  by_cases hl : 11 ≤ b.length
  · obtain ⟨m0, m1, k', a0, a1, a2, a3, s0, s1, s2, s3, r, rfl⟩ := eleven hl
    rw [takeF_eq] at h
    split at h
    · rename_i hc
      obtain ⟨rfl, rfl, h1, h2, h3⟩ := hc
      simp only [Option.some.injEq, Prod.mk.injEq] at h
      obtain ⟨rfl, rfl⟩ := h
      exact ⟨by rw [List.length_take, Nat.min_eq_left h2]; exact h1, ⟨r.drop (fourV a0 a1 a2 a3), frame_mk rfl h2 rfl h3.symm⟩⟩
    · cases h
  · rw [takeF_short (by omega)] at h
    cases h
theorem headB_eq (k : UInt8) (body : List UInt8) : headB k body = [k, UInt8.ofNat (body.length % 256), UInt8.ofNat (body.length / 256 % 256), UInt8.ofNat (body.length / 65536 % 256), UInt8.ofNat (body.length / 16777216 % 256)] := rfl
theorem fourB_eq (n : Nat) : fourB n = [UInt8.ofNat (n % 256), UInt8.ofNat (n / 256 % 256), UInt8.ofNat (n / 65536 % 256), UInt8.ofNat (n / 16777216 % 256)] := rfl
theorem is_takeF {b : List UInt8} {k : UInt8} {body : List UInt8} (h : FrameIs b k body) : takeF b = some (k, body) := by
  obtain ⟨h1, t, rfl⟩ := h
  have h2 : crcB (headB k body ++ body) < 4294967296 := crcB_lt _
  obtain ⟨s, hs⟩ : ∃ s, crcB (headB k body ++ body) = s := ⟨_, rfl⟩
  have e : wrapB k body ++ t = 83 :: 84 :: (headB k body ++ (fourB s ++ (body ++ t))) := by
    unfold wrapB
    rw [hs]
    simp
  rw [hs] at h2
  rw [headB_eq] at hs
  rw [e, headB_eq, fourB_eq s]
  simp only [List.cons_append, List.nil_append]
  rw [takeF_eq, fourV_B (by omega), fourV_B h2, List.take_left, if_pos ⟨rfl, rfl, h1, by simp, hs.symm⟩]
theorem takeF_wrap {k : UInt8} {body : List UInt8} (h : body.length ≤ 65536) (t : List UInt8) : takeF (wrapB k body ++ t) = some (k, body) := is_takeF ⟨h, t, rfl⟩
theorem takeF_bad {m0 m1 k a0 a1 a2 a3 s0 s1 s2 s3 : UInt8} {r : List UInt8} (h : ¬ (m0 = 83 ∧ m1 = 84 ∧ fourV a0 a1 a2 a3 ≤ 65536 ∧ fourV a0 a1 a2 a3 ≤ r.length ∧ fourV s0 s1 s2 s3 = crcB ([k, a0, a1, a2, a3] ++ r.take (fourV a0 a1 a2 a3)))) : takeF (m0 :: m1 :: k :: a0 :: a1 :: a2 :: a3 :: s0 :: s1 :: s2 :: s3 :: r) = none := by rw [takeF_eq, if_neg h]
theorem takeF_len {b : List UInt8} {k : UInt8} {body : List UInt8} (h : takeF b = some (k, body)) : 11 + body.length ≤ b.length ∧ body.length ≤ 65536 := by
  have h1 := takeF_is h
  exact ⟨by rw [← wrapB_len k]; exact h1.2.length_le, h1.1⟩
end Go.Proofs.YtgmdimbiipemhaaGreatDoor
namespace Go.Proofs.YtgmdimbiipemhaaGreatDoor
open Go.RowKit
set_option linter.unusedSimpArgs false
set_option linter.unusedVariables false
theorem u32_wrap (n : Int) : IntKind.u32.wrap n = n % 4294967296 := by
  unfold IntKind.wrap
  simp [IntKind.bits, IntKind.signed]
theorem bits_u32 (op : BinOp) (a b c : Nat) (ha : a < 4294967296) (hb : b < 4294967296) (hc : c < 4294967296)
    (h : (match op with | .and => a &&& b | .or => a ||| b | .xor => a ^^^ b | _ => c) = c) (ho : op = .and ∨ op = .or ∨ op = .xor) : bits op .u32 (a : Int) (b : Int) = (c : Int) := by
  unfold bits
  dsimp only
  rw [u32_wrap]
  have e64 : IntKind.u32.bits = 32 := rfl
  rcases ho with rfl | rfl | rfl
  · simp only at h ⊢
    rw [ofInt_nat, ofInt_nat, e64, BitVec.toNat_and, BitVec.toNat_ofNat, BitVec.toNat_ofNat, Nat.mod_eq_of_lt (by omega), Nat.mod_eq_of_lt (by omega), h]
    omega
  · simp only at h ⊢
    rw [ofInt_nat, ofInt_nat, e64, BitVec.toNat_or, BitVec.toNat_ofNat, BitVec.toNat_ofNat, Nat.mod_eq_of_lt (by omega), Nat.mod_eq_of_lt (by omega), h]
    omega
  · simp only at h ⊢
    rw [ofInt_nat, ofInt_nat, e64, BitVec.toNat_xor, BitVec.toNat_ofNat, BitVec.toNat_ofNat, Nat.mod_eq_of_lt (by omega), Nat.mod_eq_of_lt (by omega), h]
    omega
theorem bits_xor32 {a b : Nat} (ha : a < 4294967296) (hb : b < 4294967296) : bits .xor .u32 (a : Int) (b : Int) = ((a ^^^ b : Nat) : Int) :=
  bits_u32 .xor a b _ ha hb (xor_lt32 ha hb) rfl (.inr (.inr rfl))
theorem and_ones32 {a : Nat} (h : a < 4294967296) : 4294967295 &&& a = a := by
  rw [Nat.and_comm, show (4294967295 : Nat) = 2 ^ 32 - 1 from rfl, Nat.and_two_pow_sub_one_eq_mod]
  omega
theorem xor_ones32 {a : Nat} (h : a < 4294967296) : a ^^^ 4294967295 = 4294967295 - a := by
  have := congrArg BitVec.toNat (BitVec.xor_allOnes (x := BitVec.ofNat 32 a))
  rw [BitVec.toNat_xor, BitVec.toNat_not, BitVec.toNat_ofNat, BitVec.toNat_allOnes, Nat.mod_eq_of_lt (by omega)] at this
  simpa using this
theorem bits_and_one32 {n : Nat} (h : n < 4294967296) : bits .and .u32 (n : Int) 1 = ((n % 2 : Nat) : Int) :=
  bits_u32 .and n 1 (n % 2) h (by omega) (by omega) (Nat.and_one_is_mod n) (.inl rfl)
theorem crc_bits {s : Nat} (h : s < 4294967296) : bits .xor .u32 ((s : Int) / 2) (bits .and .u32 (-(bits .and .u32 (s : Int) 1) % 4294967296) 2197175160) = (crcS s : Int) := by
  rw [bits_and_one32 h]
  unfold crcS
  by_cases hp : s % 2 = 1
  · rw [if_pos hp, hp]
    rw [show (-((1 : Nat) : Int)) % 4294967296 = ((4294967295 : Nat) : Int) by decide]
    rw [show (2197175160 : Int) = ((2197175160 : Nat) : Int) from rfl, bits_u32 .and 4294967295 2197175160 2197175160 (by omega) (by omega) (by omega) (and_ones32 (by omega)) (.inl rfl)]
    rw [show (s : Int) / 2 = ((s / 2 : Nat) : Int) by omega]
    exact bits_xor32 (by omega) (by omega)
  · rw [if_neg hp, show s % 2 = 0 by omega]
    rw [show (-((0 : Nat) : Int)) % 4294967296 = ((0 : Nat) : Int) by decide]
    rw [show (2197175160 : Int) = ((2197175160 : Nat) : Int) from rfl, bits_u32 .and 0 2197175160 0 (by omega) (by omega) (by omega) (Nat.zero_and _) (.inl rfl)]
    rw [show (s : Int) / 2 = ((s / 2 : Nat) : Int) by omega]
    exact bits_u32 .xor _ 0 _ (by omega) (by omega) (by omega) (Nat.xor_zero _) (.inr (.inr rfl))
theorem bits_or_shift32 {a x i : Nat} (ha : a < 2 ^ i) (h : a + x * 2 ^ i < 4294967296) : bits .or .u32 (a : Int) ((x * 2 ^ i : Nat) : Int) = ((a + x * 2 ^ i : Nat) : Int) := by
  refine bits_u32 .or a (x * 2 ^ i) _ (by omega) (by omega) h ?_ (.inr (.inl rfl))
  show a ||| x * 2 ^ i = _
  rw [Nat.or_comm, Nat.mul_comm x, ← Nat.two_pow_add_eq_or_of_lt ha, Nat.add_comm]
theorem compl_bits {s : Nat} (h : s < 4294967296) : bits .xor .u32 IntKind.u32.max (s : Int) = 4294967295 - (s : Int) := by
  have e : IntKind.u32.max = ((4294967295 : Nat) : Int) := by decide
  rw [e, bits_u32 .xor 4294967295 s (4294967295 - s) (by omega) h (by omega) (by show _ ^^^ _ = _; rw [Nat.xor_comm]; exact xor_ones32 h) (.inr (.inr rfl))]
  omega
end Go.Proofs.YtgmdimbiipemhaaGreatDoor
namespace Go.Proofs.YtgmdimbiipemhaaGreatDoor
open Go.RowKit Go.Deep
set_option linter.unusedSimpArgs false
set_option linter.unusedVariables false
set_option maxRecDepth 20000 in
set_option maxHeartbeats 1000000 in
theorem bit_any {W : World} {B s : Nat} (hb : W.heap[B]? = some (.cells #[.int .u32 (s : Int)] 199 (0, 0))) (hs : s < 4294967296) : Calls Tryz.prog 164 #[.pointer (some ⟨B, 0, none⟩)] W fun e w' => (∃ v, e = .returned v) ∧ w' = W.setCell ⟨B, 0, none⟩ (.int .u32 (crcS s : Int)) := by
  have c0 := cell_of_one hb
  have f0 := free_of_one hb
  have hbits := crc_bits hs
  clear hb
  go_enter Tryz.func164, Tryz.ntmps164
  go_wp2_with fail
  go_end0
  exact ⟨⟨_, rfl⟩, rfl⟩
theorem heap_new21 (w : World) (o : Obj) : (w.alloc o).heap[w.heap.size]? = some o := by
  show (w.heap.push o)[w.heap.size]? = _
  simp
def SumAt21 (w : World) (B s : Nat) (W : World) : Prop := W.heap[B]? = some (.cells #[.int .u32 (s : Int)] 199 (0, 0)) ∧ Below B w W
theorem SumAt21.set {w W : World} {B s : Nat} (h : SumAt21 w B s W) (s' : Nat) : SumAt21 w B s' (W.setCell ⟨B, 0, none⟩ (.int .u32 (s' : Int))) :=
  ⟨one_setCell h.1, h.2.setCell (Nat.le_refl _) _⟩
theorem compl32 {s : Nat} (h : s < 4294967296) : ((4294967295 - s : Nat) : Int) = 4294967295 - (s : Int) := by omega
set_option maxRecDepth 20000 in
set_option maxHeartbeats 2000000 in
theorem sum_any (v : Value) (l : List UInt8) (w : World) (h : SliceIs u8c 1 w v l) : Calls Tryz.prog 114 #[v] w fun e w' => e = .returned (.int .u32 (crcB l : Int)) ∧ Below w.heap.size w w' := by
  obtain ⟨a, cap, rfl, hcap, hmax, -⟩ := id h
  unfold maxLen at hmax
  have HH := Lib.hid h
  have HF := Lib.hid (show SumAt21 w w.heap.size 4294967295 (w.alloc (.cells #[.int .u32 4294967295] 199)) from ⟨heap_new21 w _, (Below.refl _ _).alloc (Nat.le_refl _) _⟩)
  clear h
  go_enter Tryz.func114, Tryz.ntmps114
  go_wp2_with fail
  go_loopg [10] l.length (fun g iv wr => ∃ k : Nat, g = l.length - k ∧ k ≤ l.length ∧ iv = .int .i64 k ∧ Hid (SumAt21 w w.heap.size (crcL (l.take k)) wr))
  case atStart => exact ⟨0, rfl, Nat.zero_le _, rfl, Lib.hid (by simpa [crcL] using HF.out)⟩
  case round =>
    obtain ⟨k, hg, hk, rfl, HS⟩ := hrel
    have HG := Lib.hid hg
    clear hg
    by_cases hlt : k < l.length
    · obtain ⟨x, hx⟩ : ∃ x, l[k]? = some x := ⟨_, List.getElem?_eq_getElem hlt⟩
      have c0 := cell_of_one HS.out.1
      have f0 := free_of_one HS.out.1
      obtain ⟨bb, o, rfl, cx⟩ := (HH.out.below HS.out.2).at1 hx rfl
      have hs := crcL_lt (l.take k)
      have HT := Lib.hid (crcL_take hx)
      obtain ⟨s, hsn⟩ : ∃ s, crcL (l.take k) = s := ⟨_, rfl⟩
      rw [hsn] at hs c0 HT HS
      have hxl := x.toNat_lt
      have hb := bits_xor32 hs (show x.toNat < 4294967296 by omega)
      have hlt0 : (k : Int) < (l.length : Int) := by omega
      clear hx hsn
      go_wp2_with fail
      obtain ⟨w9, rfl⟩ : ∃ w9, w9 = wr := ⟨_, rfl⟩
      have HS9 := Lib.hid (HS.out.set (s ^^^ x.toNat))
      have hs9 : s ^^^ x.toNat < 4294967296 := xor_lt32 hs (by omega)
      clear c0 f0 cx hb
      go_loopg [18] 8 (fun g jv wx => ∃ j : Nat, g = 8 - j ∧ j ≤ 8 ∧ jv = .int .i64 j ∧ Hid (SumAt21 w w.heap.size (crcK j (s ^^^ x.toNat)) wx))
      case atStart => exact ⟨0, rfl, by omega, rfl, HS9⟩
      case round =>
        obtain ⟨j, hg, hj, rfl, HJ⟩ := hrel
        have HG2 := Lib.hid hg
        clear hg
        by_cases hjl : j < 8
        · have hj0 : (j : Int) < 8 := by omega
          go_wp2_with fail
          refine (bit_any HJ.out.1 (crcK_lt hs9 j)).mono ?_
          rintro e w5 ⟨⟨v5, rfl⟩, rfl⟩
          have HJ2 := Lib.hid (HJ.out.set (crcS (crcK j (s ^^^ x.toNat))))
          go_wp2_with fail
          go_roundg (8 - (j + 1))
          case measure => rw [HG2.out]; omega
          case rel => exact ⟨j + 1, rfl, by omega, by go_num, HJ2⟩
        · have hj0 : ¬ (j : Int) < 8 := by omega
          obtain rfl : j = 8 := by omega
          have HK : Hid (SumAt21 w w.heap.size (crcL (l.take (k + 1))) wr) := Lib.hid (by rw [HT.out]; exact HJ.out)
          go_wp2_with fail
          go_roundg (l.length - (k + 1))
          case measure => rw [HG.out]; omega
          case rel => exact ⟨k + 1, rfl, by omega, by go_num, HK⟩
    · have hlt0 : ¬ (k : Int) < (l.length : Int) := by omega
      obtain rfl : k = l.length := by omega
      have HS2 := HS.out
      rw [List.take_length] at HS2
      have c0 := cell_of_one HS2.1
      have hs := crcL_lt l
      have HF2 : Hid (Below w.heap.size w wr ∧ (crcB l : Int) = 4294967295 - (crcL l : Int)) := Lib.hid ⟨HS2.2, compl32 hs⟩
      obtain ⟨s, hsn⟩ : ∃ s, crcL l = s := ⟨_, rfl⟩
      rw [hsn] at hs c0 HF2
      clear HS HS2 hsn
      go_wp2_with fail
      go_ret
      refine ⟨congrArg (fun x => Ending.returned (.int .u32 x)) ?_, HF2.out.1⟩
      rw [HF2.out.2]
      exact compl_bits hs
end Go.Proofs.YtgmdimbiipemhaaGreatDoor
namespace Go.Proofs.YtgmdimbiipemhaaGreatDoor
open Go.RowKit Go.Deep
set_option linter.unusedSimpArgs false
set_option linter.unusedVariables false
theorem slice_mid21 {P : Program} {α : Type} {ea : α → List Value} {q : Nat} {t e : TypeId} (ht : P.underlying t = some (.slice e)) (hsz : (P.info? e).map (·.size) = some q) (a : Option Addr) (n cap lo hi : Nat) (hn : n ≤ cap) (hlo : lo ≤ hi) (hhi : hi ≤ n) :
    ∃ a' c', (∀ W, (Instr.slice t (.slice a n cap) (some (.int .i64 (lo : Int))) (some (.int .i64 (hi : Int))) none).run P W = .ok (.slice a' (hi - lo) c') W) ∧ (∀ W (l : List α), l.length = n → SliceIs ea q W (.slice a n cap) l → SliceIs ea q W (.slice a' (hi - lo) c') ((l.take hi).drop lo)) := by
  obtain ⟨i, hi', hq⟩ : ∃ i, P.info? e = some i ∧ i.size = q := by
    cases h : P.info? e with
    | none => rw [h] at hsz; cases hsz
    | some i => rw [h] at hsz; exact ⟨i, rfl, Option.some.inj hsz⟩
  have hhc : hi ≤ cap := by omega
  refine ⟨if cap = lo then a else a.map (·.add (lo * q)), cap - lo, fun W => ?_, fun W l hl h => ?_⟩
  · simp [Instr.slice, Instr.sliceBounds, Instr.sliceBound, asIntOf, run_underlying ht, sizeOf, typeInfo, hi', hq, hlo, hhc, hn]
  · obtain ⟨a2, c2, e2, h1, h2, h3⟩ := h
    cases e2
    have hlen : ((l.take hi).drop lo).length = hi - lo := by rw [List.length_drop, List.length_take]; omega
    refine ⟨_, _, by rw [hlen], by rw [hlen]; omega, by omega, fun hne => ?_⟩
    have hlt : lo < hi := by
      rcases Nat.lt_or_ge lo hi with h | h
      · exact h
      · exact absurd (List.eq_nil_of_length_eq_zero (by rw [hlen]; omega)) hne
    have hl0 : l ≠ [] := by rintro rfl; simp at hne
    obtain ⟨b, off, rfl, h4⟩ := h3 hl0
    rw [if_neg (by omega)]
    refine ⟨b, off + lo * q, by simp [addr_add8], fun i x hi2 j u hj => ?_⟩
    rw [List.getElem?_drop] at hi2
    have hix := (List.getElem?_eq_some_iff.1 hi2).1
    rw [List.length_take] at hix
    rw [List.getElem?_take_of_lt (by omega)] at hi2
    have h5 := h4 (lo + i) x hi2 j u hj
    rw [Nat.add_mul] at h5
    rw [show off + lo * q + i * q + j = off + (lo * q + i * q) + j by omega]
    exact h5
theorem slice_to21 {P : Program} {α : Type} {ea : α → List Value} {q : Nat} {t e : TypeId} (ht : P.underlying t = some (.slice e)) (hsz : (P.info? e).map (·.size) = some q) (a : Option Addr) (n cap p : Nat) (hn : n ≤ cap) (hp : p ≤ n) :
    ∃ a', (∀ W, (Instr.slice t (.slice a n cap) none (some (.int .i64 (p : Int))) none).run P W = .ok (.slice a' p cap) W) ∧ (∀ W (l : List α), l.length = n → SliceIs ea q W (.slice a n cap) l → SliceIs ea q W (.slice a' p cap) (l.take p)) := by
  obtain ⟨i, hi, hq⟩ : ∃ i, P.info? e = some i ∧ i.size = q := by
    cases h : P.info? e with
    | none => rw [h] at hsz; cases hsz
    | some i => rw [h] at hsz; exact ⟨i, rfl, Option.some.inj hsz⟩
  have hpc : p ≤ cap := by omega
  refine ⟨if cap = 0 then a else a.map (·.add 0), fun W => ?_, fun W l hl h => ?_⟩
  · simp [Instr.slice, Instr.sliceBounds, Instr.sliceBound, asIntOf, run_underlying ht, sizeOf, typeInfo, hi, hq, hpc, hn, eq_comm]
  · by_cases hl0 : l = []
    · subst hl0
      simp at hl
      obtain ⟨a2, c2, e2, h1, h2, h3⟩ := h
      cases e2
      have hp0 : p = 0 := by omega
      subst hp0
      exact ⟨_, _, rfl, Nat.zero_le _, h2, fun hne => absurd rfl hne⟩
    · have h5 := SliceIs.take1 (k := p) h (by omega)
      have e : (if cap = 0 then a else a.map (·.add 0)) = a := by
        obtain ⟨a2, c2, e2, h1, h2, h3⟩ := h
        cases e2
        obtain ⟨b, off, rfl, _⟩ := h3 hl0
        split
        · rfl
        · simp [addr_add8]
      rw [e]
      exact h5
theorem slice_row {P : Program} {q : Nat} {t e : TypeId} (ht : P.underlying t = some (.slice e)) (hsz : (P.info? e).map (·.size) = some q) (g o n cap p : Nat) (hn : n ≤ cap) (hp : p ≤ n) (hc : p < cap) (W : World) :
    (Instr.slice t (.slice (some ⟨g, o, none⟩) n cap) (some (.int .i64 (p : Int))) none none).run P W = .ok (.slice (some ⟨g, o + p * q, none⟩) (n - p) (cap - p)) W := by
  obtain ⟨i, hi, hq⟩ : ∃ i, P.info? e = some i ∧ i.size = q := by
    cases h : P.info? e with
    | none => rw [h] at hsz; cases hsz
    | some i => rw [h] at hsz; exact ⟨i, rfl, Option.some.inj hsz⟩
  have hne : ¬ cap = p := by omega
  simp [Instr.slice, Instr.sliceBounds, Instr.sliceBound, asIntOf, run_underlying ht, sizeOf, typeInfo, hi, hq, hp, hn, hne, addr_add8]
theorem flat_take1 {α : Type} {ea : α → List Value} (h1 : ∀ x, (ea x).length = 1) : ∀ (l : List α) (o : Nat), (l.take o).flatMap ea = (l.flatMap ea).take o
  | [], o => by simp
  | x :: l, 0 => by simp
  | x :: l, o + 1 => by
    rw [List.take_succ_cons, List.flatMap_cons, List.flatMap_cons, flat_take1 h1 l o, List.take_append, h1, List.take_of_length_le (l := ea x) (by rw [h1]; omega), Nat.add_sub_cancel]
theorem flat_drop1 {α : Type} {ea : α → List Value} (h1 : ∀ x, (ea x).length = 1) : ∀ (l : List α) (o : Nat), (l.drop o).flatMap ea = (l.flatMap ea).drop o
  | [], o => by simp
  | x :: l, 0 => by simp
  | x :: l, o + 1 => by
    rw [List.drop_succ_cons, List.flatMap_cons, flat_drop1 h1 l o, List.drop_append, h1, List.drop_of_length_le (l := ea x) (by rw [h1]; omega), List.nil_append, Nat.add_sub_cancel]
theorem splice_take (c x : List Value) (n o m : Nat) (hm : x.length = m) (ho : o + m ≤ n) (hn : n ≤ c.length) : (c.take o ++ x ++ c.drop (o + m)).take n = (c.take n).take o ++ x ++ (c.take n).drop (o + m) := by
  have e1 : (c.take o ++ x).length = o + m := by rw [List.length_append, List.length_take, hm]; omega
  rw [List.take_append, List.take_of_length_le (by omega), e1, List.take_take, Nat.min_eq_left (by omega), List.drop_take]
theorem Own.splice {α : Type} {ea : α → List Value} {E : TypeId} {base g cap : Nat} {W : World} {l xs : List α} {cur : Array Value} (h1 : ∀ x, (ea x).length = 1) (h : Own ea 1 E base W (.slice (some ⟨g, 0, none⟩) l.length cap) l) (hg : W.heap[g]? = some (.cells cur E (0, 0))) (o : Nat) (ho : o + xs.length ≤ l.length) :
    Own ea 1 E base (W.setRow g (cur.toList.take o ++ xs.flatMap ea ++ cur.toList.drop (o + xs.length)).toArray) (.slice (some ⟨g, 0, none⟩) l.length cap) (l.take o ++ xs ++ l.drop (o + xs.length)) := by
  obtain ⟨h2, h3⟩ := h
  have hlen : (l.take o ++ xs ++ l.drop (o + xs.length)).length = l.length := by simp; omega
  rcases h3 with ⟨e, _⟩ | ⟨g', cap', cur', e, hb, hg', hn, hm, hs, ht⟩
  · cases e
  cases e
  rw [hg] at hg'
  cases hg'
  have hx : (xs.flatMap ea).length = xs.length := by rw [length_flatMap_k h1, Nat.mul_one]
  have hl1 : (l.flatMap ea).length = l.length := by rw [length_flatMap_k h1, Nat.mul_one]
  have hcl : cur.toList.length = cap := by rw [Array.length_toList, hs, Nat.mul_one]
  refine ⟨by rw [length_flatMap_k h1], .inr ⟨g, cap, _, by rw [hlen], hb, setRow_heap _ _ _ _ _ _ hg, by rw [hlen]; exact hn, hm, ?_, ?_⟩⟩
  · simp only [List.size_toArray, List.length_append, List.length_take, List.length_drop, hx, hcl]
    omega
  · rw [hlen, Nat.mul_one, List.flatMap_append, List.flatMap_append, flat_take1 h1, flat_drop1 h1, ← ht, Nat.mul_one]
    exact splice_take _ _ _ _ _ hx ho (by omega)
theorem ext_set1 (w : World) (r i : Nat) (v : Value) : Ext (· = r) w (w.setCell ⟨r, i, none⟩ v) := (Ext.refl (fun k => k = r) w).setCell (p := ⟨r, i, none⟩) (.inr rfl) v
theorem ext_setRow1 (w : World) (g : Nat) (cs : Array Value) : Ext (· = g) w (w.setRow g cs) :=
  ⟨rfl, rfl, rfl, by simp, fun k hk hn => setRow_other w g k cs hn⟩
end Go.Proofs.YtgmdimbiipemhaaGreatDoor
namespace Go.Proofs.YtgmdimbiipemhaaGreatDoor
open Go.RowKit Go.Deep
set_option linter.unusedSimpArgs false
set_option linter.unusedVariables false
theorem own_noB {base : Nat} {W : World} (hb : base ≤ W.heap.size) : Own u8c 1 5 base (W.alloc (.cells #[] 5)) (.slice (some ⟨W.heap.size, 0, none⟩) 0 0) [] :=
  ⟨rfl, .inr ⟨W.heap.size, 0, #[], rfl, hb, heap_new8 W _, Nat.le_refl _, Nat.zero_le _, rfl, rfl⟩⟩
theorem own_made {base : Nat} {W : World} (xs : List UInt8) (hb : base ≤ W.heap.size) (hl : xs.length ≤ 1000) : Own u8c 1 5 base (W.alloc (.cells (xs.flatMap u8c).toArray 5)) (.slice (some ⟨W.heap.size, 0, none⟩) xs.length xs.length) xs :=
  Own.of_row (fun x => ⟨_, rfl⟩) (heap_new8 W _) hb rfl (by unfold maxLen; omega)
set_option maxRecDepth 20000 in
set_option maxHeartbeats 1000000 in
theorem bclone_any {bs : List UInt8} {vx : Value} {w : World} (h : SliceIs u8c 1 w vx bs) (hl : bs.length ≤ 70368744177664) :
    Calls Tryz.prog 71 #[vx] w fun e w' => BytesPost w bs e w' := by
  have h0 := h
  obtain ⟨a, cap, rfl, hcap, hmax, hcs⟩ := h
  cases a with
  | none =>
    have hys : bs = [] := Classical.byContradiction fun hn => by obtain ⟨b, o, e, _⟩ := hcs hn; cases e
    subst hys
    clear h0 hcs
    have hnil := fun (w : World) a n c => Lib.run_eql_slice_nil (P := Tryz.prog) w 22 _ a n c 0 0 Tryz.underlying22
    go_enter Tryz.func71, Tryz.ntmps71
    go_wp2
    go_ret
    exact ⟨_, rfl, Own.nil, Below.refl _ _⟩
  | some ad =>
    have hb0 : Below w.heap.size w (w.alloc (.cells #[] 5)) := (Below.refl _ _).alloc (Nat.le_refl _) _
    obtain ⟨⟨sa, sn, sc⟩, w6, hr6, ho6, hb6, hz6⟩ := bytes_append (own_noB (Nat.le_refl _)) hb0 (h0.below hb0) (by simp) (by simp; omega)
    rw [List.nil_append] at ho6
    have HR := Lib.hid hr6
    have HO := Lib.hid (And.intro ho6 hb6)
    clear h0 hcs hb0 hr6 ho6 hb6 hz6
    have hnil := fun (w : World) a n c => Lib.run_eql_slice_nil (P := Tryz.prog) w 22 _ a n c 0 0 Tryz.underlying22
    go_enter Tryz.func71, Tryz.ntmps71
    go_wp2_with (at_builtin; refine Lib.wpList_append_run _ rfl _ _ _ _ rfl _ _ rfl rfl _ _ HR.out ?_)
    go_ret
    exact ⟨_, rfl, HO.out.1, HO.out.2⟩
end Go.Proofs.YtgmdimbiipemhaaGreatDoor
namespace Go.Proofs.YtgmdimbiipemhaaGreatDoor
open Go.RowKit Go.Deep
set_option linter.unusedSimpArgs false
set_option linter.unusedVariables false
set_option maxRecDepth 20000 in
set_option maxHeartbeats 2000000 in
theorem rsum_any (v : Value) (l : List UInt8) (w : World) (h : SliceIs u8c 1 w v l) : Calls Tryz.prog 117 #[v] w fun e w' => e = .returned (.int .u32 (crcB l : Int)) ∧ w = w' := by
  obtain ⟨a, cap, rfl, hcap, hmax, -⟩ := id h
  unfold maxLen at hmax
  have HH := Lib.hid h
  have HF : Hid ((4294967295 : Int) = ((crcL (l.take 0) : Nat) : Int)) := Lib.hid (by simp [crcL])
  clear h
  go_enter Tryz.func117, Tryz.ntmps117
  go_wp2_with fail
  go_loopg [3, 4] l.length (fun g sv iv wr => ∃ k : Nat, g = l.length - k ∧ k ≤ l.length ∧ sv = .int .u32 (crcL (l.take k) : Int) ∧ iv = .int .i64 k ∧ w = wr)
  case atStart => exact ⟨0, rfl, Nat.zero_le _, by rw [← HF.out], rfl, rfl⟩
  case round =>
    obtain ⟨k, hg, hk, rfl, rfl, rfl⟩ := hrel
    have HG := Lib.hid hg
    clear hg
    by_cases hlt : k < l.length
    · obtain ⟨x, hx⟩ : ∃ x, l[k]? = some x := ⟨_, List.getElem?_eq_getElem hlt⟩
      obtain ⟨bb, o, rfl, cx⟩ := HH.out.at1 hx rfl
      have hs := crcL_lt (l.take k)
      have HT := Lib.hid (crcL_take hx)
      obtain ⟨s, hsn⟩ : ∃ s, crcL (l.take k) = s := ⟨_, rfl⟩
      rw [hsn] at hs HT ⊢
      have hxl := x.toNat_lt
      have hb := bits_xor32 hs (show x.toNat < 4294967296 by omega)
      have hlt0 : (k : Int) < (l.length : Int) := by omega
      clear hx hsn
      go_wp2_with fail
      have hs9 : s ^^^ x.toNat < 4294967296 := xor_lt32 hs (by omega)
      clear cx hb
      go_loopg [3, 5] 8 (fun g sv jv wx => ∃ j : Nat, g = 8 - j ∧ j ≤ 8 ∧ sv = .int .u32 (crcK j (s ^^^ x.toNat) : Int) ∧ jv = .int .i64 j ∧ w = wx)
      case atStart => exact ⟨0, rfl, by omega, rfl, rfl, rfl⟩
      case round =>
        obtain ⟨j, hg, hj, rfl, rfl, rfl⟩ := hrel
        have HG2 := Lib.hid hg
        clear hg
        by_cases hjl : j < 8
        · have hj0 : (j : Int) < 8 := by omega
          have hq := crcK_lt hs9 j
          have HQ : Hid (crcK (j + 1) (s ^^^ x.toNat) = crcS (crcK j (s ^^^ x.toNat))) := Lib.hid rfl
          obtain ⟨q, hqn⟩ : ∃ q, crcK j (s ^^^ x.toNat) = q := ⟨_, rfl⟩
          rw [hqn] at hq HQ ⊢
          clear hqn
          by_cases hp : q % 2 = 1
          · have hp1 : (q : Int) % 2 = 1 := by omega
            have hb2 : bits .xor .u32 ((q : Int) / 2) 2197175160 = (crcS q : Int) := by
              unfold crcS
              rw [if_pos hp, show (q : Int) / 2 = ((q / 2 : Nat) : Int) by omega]
              exact bits_xor32 (a := q / 2) (b := 2197175160) (by omega) (by omega)
            clear hp
            go_wp2_with fail
            go_roundg (8 - (j + 1))
            case measure => rw [HG2.out]; omega
            case rel => exact ⟨j + 1, rfl, by omega, by rw [HQ.out], by go_num, rfl⟩
          · have hp1 : ¬ (q : Int) % 2 = 1 := by omega
            have HB2 : Hid ((crcS q : Int) = (q : Int) / 2) := Lib.hid (by
              unfold crcS
              rw [if_neg hp]
              omega)
            clear hp
            go_wp2_with fail
            go_roundg (8 - (j + 1))
            case measure => rw [HG2.out]; omega
            case rel => exact ⟨j + 1, rfl, by omega, by rw [HQ.out, HB2.out], by go_num, rfl⟩
        · have hj0 : ¬ (j : Int) < 8 := by omega
          obtain rfl : j = 8 := by omega
          have HK : Hid (crcK 8 (s ^^^ x.toNat) = crcL (l.take (k + 1))) := Lib.hid HT.out.symm
          rw [HK.out]
          go_wp2_with fail
          go_roundg (l.length - (k + 1))
          case measure => rw [HG.out]; omega
          case rel => exact ⟨k + 1, rfl, by omega, rfl, by go_num, rfl⟩
    · have hlt0 : ¬ (k : Int) < (l.length : Int) := by omega
      obtain rfl : k = l.length := by omega
      rw [List.take_length]
      have hs := crcL_lt l
      have hbb : bits .xor .u32 (crcL l : Int) 4294967295 = (crcB l : Int) := by
        have e : crcB l = 4294967295 - crcL l := rfl
        rw [e]
        exact bits_u32 .xor _ 4294967295 _ hs (by omega) (by omega) (xor_ones32 hs) (.inr (.inr rfl))
      obtain ⟨s, hsn⟩ : ∃ s, crcL l = s := ⟨_, rfl⟩
      obtain ⟨c, hcn⟩ : ∃ c, crcB l = c := ⟨_, rfl⟩
      rw [hsn] at hs hbb ⊢
      rw [hcn] at hbb
      have HCN := Lib.hid hcn
      clear hsn hcn
      go_wp2_with fail
      go_ret
      exact ⟨by rw [HCN.out]; rfl, rfl⟩
def putK (l : List UInt8) (o n k : Nat) : List UInt8 := l.take o ++ (fourB n).take k ++ l.drop (o + k)
theorem putK_zero (l : List UInt8) (o n : Nat) : putK l o n 0 = l := by simp [putK]
theorem putK_len {l : List UInt8} {o n k : Nat} (hk : k ≤ 4) (h : o + k ≤ l.length) : (putK l o n k).length = l.length := by
  have := fourB_len n
  simp [putK]
  omega
theorem four_get (n k : Nat) (hk : k < 4) : (fourB n)[k]? = some (UInt8.ofNat (n / 2 ^ (8 * k) % 256)) := by
  have : k = 0 ∨ k = 1 ∨ k = 2 ∨ k = 3 := by omega
  rcases this with rfl | rfl | rfl | rfl
  · simp [fourB]
  · simp [fourB]
  · simp [fourB]
  · simp [fourB]
theorem putK_step {l : List UInt8} {o n k : Nat} (hk : k < 4) (h : o + k < l.length) : (putK l o n k).set (o + k) (UInt8.ofNat (n / 2 ^ (8 * k) % 256)) = putK l o n (k + 1) := by
  have h4 := fourB_len n
  have e1 : (l.take o ++ (fourB n).take k).length = o + k := by simp; omega
  unfold putK
  rw [List.set_append_right _ _ (by omega), e1, Nat.sub_self, List.take_add_one, four_get n k hk, Option.toList_some]
  have e2 : l.drop (o + k) = l[o + k] :: l.drop (o + k + 1) := List.drop_eq_getElem_cons h
  rw [e2, List.set_cons_zero]
  simp [Nat.add_assoc]
set_option maxRecDepth 20000 in
set_option maxHeartbeats 2000000 in
theorem fput_any {base g o m c cap n : Nat} {l : List UInt8} {w : World} (h : Own u8c 1 5 base w (.slice (some ⟨g, 0, none⟩) l.length cap) l) (hn : n < 4294967296) (ho : o + 4 ≤ l.length) (hm : 4 ≤ m) (hm2 : m ≤ 9223372036854775807) :
    Calls Tryz.prog 113 #[.slice (some ⟨g, o, none⟩) m c, .int .u32 (n : Int)] w fun e w' => (∃ v, e = .returned v) ∧ Own u8c 1 5 base w' (.slice (some ⟨g, 0, none⟩) l.length cap) (putK l o n 4) ∧ Ext (· = g) w w' := by
  have HH := Lib.hid h
  clear h
  go_enter Tryz.func113, Tryz.ntmps113
  go_wp2_with fail
  go_loopg [5] 4 (fun gg iv wr => ∃ k : Nat, gg = 4 - k ∧ k ≤ 4 ∧ iv = .int .i64 k ∧ Hid (Own u8c 1 5 base wr (.slice (some ⟨g, 0, none⟩) l.length cap) (putK l o n k) ∧ Ext (· = g) w wr))
  case atStart => exact ⟨0, rfl, by omega, rfl, Lib.hid ⟨by rw [putK_zero]; exact HH.out, Ext.refl _ _⟩⟩
  case round =>
    obtain ⟨k, hg, hk, rfl, HK⟩ := hrel
    have HG := Lib.hid hg
    clear hg
    by_cases hlt : k < 4
    · have hk1 : (k : Int) < 4 := by omega
      have hkm : (k : Int) < (m : Int) := by omega
      have hlen := putK_len (l := l) (o := o) (n := n) (k := k) (by omega) (by omega)
      obtain ⟨y, hy⟩ : ∃ y, (putK l o n k)[o + k]? = some y := ⟨_, List.getElem?_eq_getElem (by omega)⟩
      have hO := HK.out.1
      rw [← hlen] at hO
      have cy := hO.cellAt u8c_len (i := o + k) (j := 0) hy rfl
      have fy := hO.free (o + k)
      have hO2 := hO.setAt u8c_len (j := 0) (y := UInt8.ofNat (n / 2 ^ (8 * k) % 256)) (u := .int .u8 ((UInt8.ofNat (n / 2 ^ (8 * k) % 256)).toNat : Int)) hy (by omega) rfl
      rw [putK_step hlt (by omega), hlen] at hO2
      rw [Nat.mul_one, Nat.add_zero] at cy hO2
      have hv : (n : Int) / 2 ^ (8 * k) % 256 = ((UInt8.ofNat (n / 2 ^ (8 * k) % 256)).toNat : Int) := by
        rw [u8_nat (by omega)]
        push_cast
        rfl
      obtain ⟨z, hz⟩ : ∃ z, UInt8.ofNat (n / 2 ^ (8 * k) % 256) = z := ⟨_, rfl⟩
      rw [hz] at hv hO2
      have HN := Lib.hid (And.intro hO2 (HK.out.2.trans (ext_set1 _ g (o + k) (.int .u8 (z.toNat : Int)))))
      clear hO hO2 hz hy hlen
      go_wp2_with fail
      go_roundg (4 - (k + 1))
      case measure => rw [HG.out]; omega
      case rel => exact ⟨k + 1, rfl, by omega, by go_num, HN⟩
    · have hk1 : ¬ (k : Int) < 4 := by omega
      obtain rfl : k = 4 := by omega
      go_wp2_with fail
      go_end0
      exact ⟨⟨_, rfl⟩, HK.out.1, HK.out.2⟩
end Go.Proofs.YtgmdimbiipemhaaGreatDoor
namespace Go.Proofs.YtgmdimbiipemhaaGreatDoor
open Go.RowKit Go.Deep
set_option linter.unusedSimpArgs false
set_option linter.unusedVariables false
def fourK (l : List UInt8) : Nat → Nat
  | 0 => 0
  | k + 1 => fourK l k + (l.getD k 0).toNat * 2 ^ (8 * k)
theorem fourK_lt (l : List UInt8) : ∀ k, fourK l k < 2 ^ (8 * k)
  | 0 => by simp [fourK]
  | k + 1 => by
    have h1 := fourK_lt l k
    have h2 := (l.getD k 0).toNat_lt
    have e : 2 ^ (8 * (k + 1)) = 2 ^ (8 * k) * 256 := by rw [show 8 * (k + 1) = 8 * k + 8 by omega, Nat.pow_add]
    have h3 : (l.getD k 0).toNat * 2 ^ (8 * k) ≤ 255 * 2 ^ (8 * k) := Nat.mul_le_mul_right _ (by omega)
    rw [fourK, e]
    omega
theorem fourK_four (a b c d : UInt8) (l : List UInt8) : fourK (a :: b :: c :: d :: l) 4 = fourV a b c d := by
  simp [fourK, fourV]
set_option maxRecDepth 20000 in
set_option maxHeartbeats 2000000 in
theorem fget_any (v : Value) (l : List UInt8) (w : World) (h : SliceIs u8c 1 w v l) (hl : 4 ≤ l.length) : Calls Tryz.prog 163 #[v] w fun e w' => e = .returned (.int .u32 (fourK l 4 : Int)) ∧ w = w' := by
  obtain ⟨a, cap, rfl, hcap, hmax, -⟩ := id h
  unfold maxLen at hmax
  have HH := Lib.hid h
  clear h
  go_enter Tryz.func163, Tryz.ntmps163
  go_wp2_with fail
  go_loopg [3, 5] 4 (fun g sv iv wr => ∃ k : Nat, g = 4 - k ∧ k ≤ 4 ∧ sv = .int .u32 (fourK l k : Int) ∧ iv = .int .i64 k ∧ w = wr)
  case atStart => exact ⟨0, rfl, Nat.zero_le _, rfl, rfl, rfl⟩
  case round =>
    obtain ⟨k, hg, hk, rfl, rfl, rfl⟩ := hrel
    have HG := Lib.hid hg
    clear hg
    by_cases hlt : k < 4
    · obtain ⟨x, hx⟩ : ∃ x, l[k]? = some x := ⟨_, List.getElem?_eq_getElem (by omega)⟩
      obtain ⟨bb, o, rfl, cx⟩ := HH.out.at1 hx rfl
      have hs := fourK_lt l k
      have hs2 := fourK_lt l (k + 1)
      have hxg : l.getD k 0 = x := by rw [List.getD_eq_getElem?_getD, hx]; rfl
      have HT : Hid (fourK l (k + 1) = fourK l k + x.toNat * 2 ^ (8 * k)) := Lib.hid (by rw [fourK, hxg])
      rw [HT.out] at hs2
      have h4 : 2 ^ (8 * (k + 1)) ≤ 2 ^ 32 := Nat.pow_le_pow_right (by omega) (by omega)
      have hlt32 : fourK l k + x.toNat * 2 ^ (8 * k) < 4294967296 := by omega
      have hxl := x.toNat_lt
      have hb := bits_or_shift32 (x := x.toNat) hs hlt32
      have hw : (x.toNat : Int) * 2 ^ (8 * k) % 4294967296 = ((x.toNat * 2 ^ (8 * k) : Nat) : Int) := by
        have e : (x.toNat : Int) * 2 ^ (8 * k) = ((x.toNat * 2 ^ (8 * k) : Nat) : Int) := by push_cast; rfl
        rw [e]
        omega
      obtain ⟨z, hz⟩ : ∃ z, x.toNat * 2 ^ (8 * k) = z := ⟨_, rfl⟩
      obtain ⟨s, hsn⟩ : ∃ s, fourK l k = s := ⟨_, rfl⟩
      obtain ⟨c, hcn⟩ : ∃ c, s + z = c := ⟨_, rfl⟩
      rw [hz] at hb hw HT
      rw [hsn] at hb HT ⊢
      rw [hcn] at hb HT
      have hlt0 : (k : Int) < 4 := by omega
      have hkl : (k : Int) < (l.length : Int) := by omega
      clear hx hsn hxg hs hs2 h4 hlt32 hz hcn
      go_wp2_with fail
      go_roundg (4 - (k + 1))
      case measure => rw [HG.out]; omega
      case rel => exact ⟨k + 1, rfl, by omega, by rw [HT.out], by go_num, rfl⟩
    · have hlt0 : ¬ (k : Int) < 4 := by omega
      obtain rfl : k = 4 := by omega
      go_wp2_with fail
      go_ret
      exact ⟨rfl, rfl⟩
set_option maxRecDepth 20000 in
set_option maxHeartbeats 2000000 in
theorem fsummed_any (v : Value) (l : List UInt8) (w : World) (h : SliceIs u8c 1 w v l) (hl : 11 ≤ l.length) (hb : l.length ≤ 1000000) : Calls Tryz.prog 115 #[v] w fun e w' => BytesPost w ((l.take 7).drop 2 ++ l.drop 11) e w' := by
  obtain ⟨a, cap, rfl, hcap, hmax, -⟩ := id h
  unfold maxLen at hmax
  obtain ⟨a4, c4, hs4, hS4⟩ := slice_mid21 (P := Tryz.prog) (ea := u8c) Tryz.underlying22 size_u8 a l.length cap 2 7 hcap (by omega) (by omega)
  obtain ⟨a7, c7, hs7, hS7, -⟩ := slice_from (P := Tryz.prog) (ea := u8c) Tryz.underlying22 size_u8 a l.length cap 11 hcap hl
  have hr4 : ∀ W, (Instr.slice 22 (.slice a l.length cap) (some (.int .i64 2)) (some (.int .i64 7)) none).run Tryz.prog W = .ok (.slice a4 5 c4) W := hs4
  have hr7 : ∀ W, (Instr.slice 22 (.slice a l.length cap) (some (.int .i64 11)) none none).run Tryz.prog W = .ok (.slice a7 (l.length - 11) c7) W := hs7
  have HS := Lib.hid (And.intro (hS4 w l rfl h) (And.intro (hS7 w l rfl h) h))
  clear hs4 hs7 hS4 hS7 h
  go_enter Tryz.func115, Tryz.ntmps115
  go_upto_region 1 with fail
  refine wp_region_s (fun _ => True) (fun _ => false) (by kernel_rfl) ?_
  have HB : Hid (Below w.heap.size w w.drew) := Lib.hid (Below.refl _ _).drew
  have hsz : w.drew.heap.size = w.heap.size := rfl
  generalize w.drew = W1 at HB hsz ⊢
  have hS0 : (fun _ : World => True) W1 := trivial
  refine wpAnyS_take (i := 0) (d := some 3) rfl rfl rfl (by kernel_rfl) (by kernel_rfl) (by kernel_rfl) (by kernel_rfl) (fun _ _ _ h => h) (.inl ⟨by rfl, fun W hW => by go_simp; try rfl⟩) hS0 ?_
  try simp only [Act.put, List.setIfInBounds_toArray, List.set_cons_zero, List.set_cons_succ]
  refine wpAnyS_take (i := 1) (d := some 4) (v := .slice a4 5 c4) rfl rfl rfl (by kernel_rfl) (by kernel_rfl) (by kernel_rfl) (by kernel_rfl) (fun _ _ _ h => h) (.inl ⟨by rfl, fun W hW => by go_simp; try rfl⟩) hS0 ?_
  try simp only [Act.put, List.setIfInBounds_toArray, List.set_cons_zero, List.set_cons_succ]
  refine wpAnyS_take (i := 3) (d := some 6) rfl rfl rfl (by kernel_rfl) (by kernel_rfl) (by kernel_rfl) (by kernel_rfl) (fun _ _ _ h => h) (.inl ⟨by rfl, fun W hW => by go_simp; try rfl⟩) hS0 ?_
  try simp only [Act.put, List.setIfInBounds_toArray, List.set_cons_zero, List.set_cons_succ]
  refine wpAnyS_take (i := 4) (d := some 7) (v := .slice a7 (l.length - 11) c7) rfl rfl rfl (by kernel_rfl) (by kernel_rfl) (by kernel_rfl) (by kernel_rfl) (fun _ _ _ h => h) (.inl ⟨by rfl, fun W hW => by go_simp; try rfl⟩) hS0 ?_
  try simp only [Act.put, List.setIfInBounds_toArray, List.set_cons_zero, List.set_cons_succ]
  refine wpAnyS_call (i := 2) (d := some 5) (f := 71) (args := #[.slice a4 5 c4]) (w' := W1) (by kernel_rfl) rfl rfl (by rfl) (by go_simp; try rfl) ?_
  refine (bclone_any (HS.out.1.below HB.out) (by simp; omega)).mono ?_
  rintro e w5 ⟨v5, rfl, own5, b5⟩
  obtain ⟨⟨ta, tn, tc⟩, e5⟩ := own5.sl
  dsimp only at e5
  subst e5
  obtain ⟨⟨ua, un, uc⟩, w6, hr6, own6, b6, hsz6⟩ := bytes_append own5 b5 ((HS.out.2.1.below HB.out).below b5) b5.size (by simp; omega)
  refine ⟨_, rfl, fun _ => trivial, ?_⟩
  try simp only [Act.put, List.setIfInBounds_toArray, List.set_cons_zero, List.set_cons_succ]
  refine wpAnyS_ran (i := 5) (d := some 8) (v := .slice ua un uc) (w' := w6) (by kernel_rfl) rfl rfl (by rfl) (exec_append rfl rfl rfl hr6) (fun _ => trivial) ?_
  try simp only [Act.put, List.setIfInBounds_toArray, List.set_cons_zero, List.set_cons_succ]
  have hS6 : (fun _ : World => True) w6 := trivial
  refine wpAnyS_take (i := 6) (d := some 2) rfl rfl rfl (by kernel_rfl) (by kernel_rfl) (by kernel_rfl) (by kernel_rfl) (fun _ _ _ h => h) (.inl ⟨by rfl, fun W hW => by go_simp; try rfl⟩) hS6 ?_
  try simp only [Act.put, List.setIfInBounds_toArray, List.set_cons_zero, List.set_cons_succ]
  refine wpAnyS_done (by kernel_rfl) ?_ _
  rw [hsz] at own6 b6
  have HF := Lib.hid (And.intro own6 (HB.out.trans b6))
  clear own6 b6 hr6 own5 b5 hr4 hr7
  go_wp2_with fail
  go_ret
  exact ⟨_, rfl, HF.out.1, HF.out.2⟩
theorem own_zero {base n cap : Nat} {W : World} (hb : base ≤ W.heap.size) (hn : n ≤ cap) (hc : cap ≤ 9223372036854775807) : Own u8c 1 5 base (W.alloc (.cells (madeCells (Value.int .u8 0).cells (cap * 1)) 5)) (.slice (some ⟨W.heap.size, 0, none⟩) n cap) (List.replicate n 0) := by
  have e := made_rep (Value.int .u8 0) rfl cap
  rw [e]
  unfold repC
  rw [List.replicate_zero, List.nil_append, Nat.sub_zero]
  have hf : ∀ n, (List.replicate n (0 : UInt8)).flatMap u8c = List.replicate n (.int .u8 0) := by
    intro n
    induction n with
    | zero => rfl
    | succ n ih => rw [List.replicate_succ, List.flatMap_cons, ih]; rfl
  refine ⟨by rw [length_flatMap_k u8c_len], .inr ⟨W.heap.size, cap, _, by rw [List.length_replicate], hb, heap_new8 W _, by rw [List.length_replicate]; exact hn, by unfold maxLen; exact hc, by simp, ?_⟩⟩
  rw [hf, List.length_replicate, Nat.mul_one]
  simp [List.take_replicate, Nat.min_eq_left hn]
theorem wrap_p1 (k : UInt8) (n : Nat) : putK (([83, 84] ++ List.replicate 9 0 : List UInt8).set 2 k) 3 n 4 = 83 :: 84 :: k :: (fourB n ++ [0, 0, 0, 0]) := by
  have h4 := fourB_len n
  unfold putK
  rw [List.take_of_length_le (l := fourB n) (by omega)]
  generalize fourB n = f
  rfl
theorem wrap_p2 (k : UInt8) (n c : Nat) (body : List UInt8) : putK ((83 :: 84 :: k :: (fourB n ++ [0, 0, 0, 0])) ++ body) 7 c 4 = 83 :: 84 :: (k :: fourB n ++ (fourB c ++ body)) := by
  have h4 := fourB_len n
  have h5 := fourB_len c
  unfold putK
  rw [List.take_of_length_le (l := fourB c) (by omega)]
  generalize fourB c = f
  rw [fourB_eq]
  generalize UInt8.ofNat (n % 256) = a
  generalize UInt8.ofNat (n / 256 % 256) = b
  generalize UInt8.ofNat (n / 65536 % 256) = d
  generalize UInt8.ofNat (n / 16777216 % 256) = e
  simp
theorem wrap_p3 (k : UInt8) (n : Nat) (body : List UInt8) : (((83 :: 84 :: k :: (fourB n ++ [0, 0, 0, 0])) ++ body).take 7).drop 2 ++ ((83 :: 84 :: k :: (fourB n ++ [0, 0, 0, 0])) ++ body).drop 11 = k :: fourB n ++ body := by
  rw [fourB_eq]
  generalize UInt8.ofNat (n % 256) = a
  generalize UInt8.ofNat (n / 256 % 256) = b
  generalize UInt8.ofNat (n / 65536 % 256) = d
  generalize UInt8.ofNat (n / 16777216 % 256) = e
  simp
def WrapPost (w : World) (k : UInt8) (body : List UInt8) (e : Ending) (w' : World) : Prop :=
  (body.length ≤ 65536 ∧ ∃ v, e = .returned (.tuple #[v, .int .i64 0]) ∧ Own u8c 1 5 w.heap.size w' v (wrapB k body) ∧ Below w.heap.size w w') ∨
  (65536 < body.length ∧ e = .returned (.tuple #[.slice none 0 0, .int .i64 1]) ∧ Below w.heap.size w w')
set_option maxRecDepth 20000 in
set_option maxHeartbeats 4000000 in
theorem wrap_any (k : UInt8) (v : Value) (body : List UInt8) (w : World) (h : SliceIs u8c 1 w v body) : Calls Tryz.prog 65 #[.int .u8 (k.toNat : Int), v] w fun e w' => WrapPost w k body e w' := by
  obtain ⟨a, cap, rfl, hcap, hmax, -⟩ := id h
  unfold maxLen at hmax
  by_cases hbig : 65536 < body.length
  · have hb1 : (65536 : Int) < (body.length : Int) := by omega
    go_enter Tryz.func65, Tryz.ntmps65
    go_wp2_with fail
    go_ret2
    exact .inr ⟨hbig, rfl, Below.refl _ _⟩
  have hb1 : ¬ (65536 : Int) < (body.length : Int) := by omega
  obtain ⟨i0, hi, hy0, hy1, hy2⟩ := info_parts info_u8
  have hmk : (Instr.makeSlice 22 (.int .i64 11) (.int .i64 (11 + (body.length : Int)))).run Tryz.prog w = .ok (.slice (some ⟨w.heap.size, 0, none⟩) 11 (11 + body.length)) (w.alloc (.cells (madeCells (Value.int .u8 0).cells ((11 + body.length) * 1)) 5)) := by
    have h := run_make (P := Tryz.prog) w 22 5 i0 _ Tryz.underlying22 hi hy0 .i64 .i64 11 (11 + (body.length : Int)) (by omega) (by omega) (by rw [hy2]; omega) (by omega)
    rw [hy1, show (11 + (body.length : Int)).toNat = 11 + body.length by omega] at h
    exact h
  have hb0 : Below w.heap.size w (w.alloc (.cells (madeCells (Value.int .u8 0).cells ((11 + body.length) * 1)) 5)) := (Below.refl _ _).alloc (Nat.le_refl _) _
  have ho0 := own_zero (base := w.heap.size) (n := 11) (cap := 11 + body.length) (W := w) (Nat.le_refl _) (by omega) (by omega)
  have hz0 : w.heap.size < (w.alloc (.cells (madeCells (Value.int .u8 0).cells ((11 + body.length) * 1)) 5)).heap.size := by simp
  obtain ⟨w1, hw1⟩ : ∃ w1, w.alloc (.cells (madeCells (Value.int .u8 0).cells ((11 + body.length) * 1)) 5) = w1 := ⟨_, rfl⟩
  rw [hw1] at hmk hb0 ho0 hz0
  clear hw1 hi hy0 hy1 hy2
  obtain ⟨cur, hcur⟩ := ho0.tag (b := w.heap.size) rfl
  have hcs : cur.size = (11 + body.length) := by
    obtain ⟨_, h3⟩ := ho0
    rcases h3 with ⟨e, _⟩ | ⟨g', cap', cur', e, hb, hg', hn, hm, hs, ht⟩
    · cases e
    · cases e
      rw [hcur] at hg'
      cases hg'
      rw [hs, Nat.mul_one]
  have hcp := Lib.run_copy_row_string (P := Tryz.prog) w1 22 9 3 5 w.heap.size 0 11 (11 + body.length) ⟨#[83, 84]⟩ cur 5 Tryz.underlying22 size_u8 hcur (by decide) (by show 0 + 2 ≤ _; omega)
  have ho1 := ho0.splice (xs := [83, 84]) u8c_len hcur 0 (by simp)
  rw [show ([83, 84] : List UInt8).flatMap u8c = Lib.byteCells (⟨#[83, 84]⟩ : ByteArray).data.toList from rfl] at ho1
  have hx1 := ext_setRow1 w1 w.heap.size (cur.toList.take 0 ++ Lib.byteCells (⟨#[83, 84]⟩ : ByteArray).data.toList ++ cur.toList.drop (0 + 2)).toArray
  obtain ⟨w2, hw2⟩ : ∃ w2, w1.setRow w.heap.size (cur.toList.take 0 ++ Lib.byteCells (⟨#[83, 84]⟩ : ByteArray).data.toList ++ cur.toList.drop (0 + 2)).toArray = w2 := ⟨_, rfl⟩
  have hcp2 : (Builtin.copy_ #[22, 9] 3 #[.slice (some ⟨w.heap.size, 0, none⟩) 11 (11 + body.length), .string ⟨#[83, 84]⟩]).run Tryz.prog w1 = .ok (.int .i64 2) w2 := by rw [← hw2]; exact hcp
  have ho2 : Own u8c 1 5 w.heap.size w2 (.slice (some ⟨w.heap.size, 0, none⟩) 11 (11 + body.length)) ([83, 84] ++ List.replicate 9 0) := by rw [← hw2]; exact ho1
  have hb2 : Below w.heap.size w w2 := by rw [← hw2]; exact Ext.new hb0 hx1 (fun i hi _ e => by omega) (by omega)
  clear hcp ho1 hx1 hw2 ho0 hcur hcs
  have c2 := Own.cellAt (l := ([83, 84] ++ List.replicate 9 0 : List UInt8)) ho2 u8c_len (i := 2) (j := 0) (x := 0) rfl rfl
  have f2 := Own.free (l := ([83, 84] ++ List.replicate 9 0 : List UInt8)) ho2 2
  have ho3 := Own.setAt (l := ([83, 84] ++ List.replicate 9 0 : List UInt8)) ho2 u8c_len (i := 2) (j := 0) (x := 0) (y := k) (u := .int .u8 (k.toNat : Int)) rfl (by omega) rfl
  rw [show 2 * 1 + 0 = 2 from rfl] at c2 ho3
  have hb3 : Below w.heap.size w (w2.setCell ⟨w.heap.size, 2, none⟩ (.int .u8 (k.toNat : Int))) := hb2.setCell (Nat.le_refl _) _
  have hs3 := slice_row (P := Tryz.prog) Tryz.underlying22 size_u8 w.heap.size 0 11 (11 + body.length) 3 (by omega) (by omega) (by omega)
  have hr3 : ∀ W, (Instr.slice 22 (.slice (some ⟨w.heap.size, 0, none⟩) 11 (11 + body.length)) (some (.int .i64 3)) none none).run Tryz.prog W = .ok (.slice (some ⟨w.heap.size, 3, none⟩) 8 (11 + body.length - 3)) W := hs3
  have HH := Lib.hid h
  have H3 := Lib.hid (And.intro ho3 hb3)
  have HZ := Lib.hid hz0
  have HN := Lib.hid (show body.length ≤ 65536 by omega)
  clear h hs3 ho3 hb3 ho2 hb2 hb0 hbig hz0
  go_enter Tryz.func65, Tryz.ntmps65
  go_upto_region 4 with fail
  go_wp2_with (with_reducible refine Lib.wpList_copy_run _ rfl _ _ _ _ rfl _ _ rfl rfl hcp2 ?_)
  clear hcp2
  refine (fput_any (n := body.length) H3.out.1 (by have := HN.out; omega) (by simp) (by omega) (by omega)).mono ?_
  rintro e w4 ⟨⟨v4, rfl⟩, own4, x4⟩
  rw [wrap_p1] at own4
  have own4b : Own u8c 1 5 w.heap.size w4 (.slice (some ⟨w.heap.size, 0, none⟩) 11 (11 + body.length)) (83 :: 84 :: k :: (fourB body.length ++ [0, 0, 0, 0])) := own4
  have b4 : Below w.heap.size w w4 := Ext.new H3.out.2 x4 (fun i hi _ e => by omega) (by have := H3.out.2.size; omega)
  have hl11 : (83 :: 84 :: k :: (fourB body.length ++ [0, 0, 0, 0])).length = 11 := rfl
  obtain ⟨⟨ua, un, uc⟩, w6, hr6, own6, b6, hsz6⟩ := bytes_append own4b b4 (HH.out.below b4) b4.size (by rw [hl11]; omega)
  clear own4 own4b x4
  go_wp2_with (at_builtin; refine Lib.wpList_append_run _ rfl _ _ _ _ rfl _ _ rfl rfl _ _ hr6 ?_)
  rcases own6.eq_slice with ⟨_, e⟩ | ⟨g, gc, e, hg1, hg2⟩
  · simp at e
  injection e with e1 e2 e3
  subst e1
  subst e3
  obtain ⟨F, hF⟩ : ∃ F, (83 :: 84 :: k :: (fourB body.length ++ [0, 0, 0, 0])) ++ body = F := ⟨_, rfl⟩
  have hFl : F.length = 11 + body.length := by rw [← hF, List.length_append, hl11]
  rw [hF] at own6 e2
  have hfu := own6
  rw [e2] at own6
  clear hfu
  have hgc : F.length ≤ uc ∧ uc ≤ 9223372036854775807 := (own6.slice u8c_len).n_eq.2
  have HUN := Lib.hid e2
  have hun1 : un = 11 + body.length := by omega
  have hun2 : un ≤ uc := by omega
  have HU1 := Lib.hid hun1
  have hs7 := slice_row (P := Tryz.prog) Tryz.underlying22 size_u8 g 0 un uc 7 hun2 (by omega) (by omega)
  have hr7 : ∀ W, (Instr.slice 22 (.slice (some ⟨g, 0, none⟩) un uc) (some (.int .i64 7)) none none).run Tryz.prog W = .ok (.slice (some ⟨g, 7, none⟩) (un - 7) (uc - 7)) W := hs7
  have H6 := Lib.hid (And.intro own6 (And.intro b6 hF))
  have hN2 := HN.out
  have hu11 : 11 ≤ un := by omega
  have huL : un ≤ 1000000 := by omega
  clear hr6 own6 b6 hF hl11 hs7 e2 hun1 hFl hgc
  refine wp_region_s (fun _ => True) (fun _ => false) (by kernel_rfl) ?_
  have HB : Hid (Own u8c 1 5 w.heap.size w6.drew (.slice (some ⟨g, 0, none⟩) F.length uc) F ∧ Below w.heap.size w w6.drew) := Lib.hid ⟨H6.out.1, H6.out.2.1.drew⟩
  have hsz : w6.drew.heap.size = w6.heap.size := rfl
  generalize w6.drew = W1 at HB hsz ⊢
  have hS0 : (fun _ : World => True) W1 := trivial
  refine wpAnyS_take (i := 0) (d := some 28) rfl rfl rfl (by kernel_rfl) (by kernel_rfl) (by kernel_rfl) (by kernel_rfl) (fun _ _ _ h => h) (.inl ⟨by rfl, fun W hW => by go_simp; try rfl⟩) hS0 ?_
  try simp only [Act.put, List.setIfInBounds_toArray, List.set_cons_zero, List.set_cons_succ]
  refine wpAnyS_take (i := 1) (d := some 29) (v := .slice (some ⟨g, 7, none⟩) (un - 7) (uc - 7)) rfl rfl rfl (by kernel_rfl) (by kernel_rfl) (by kernel_rfl) (by kernel_rfl) (fun _ _ _ h => h) (.inl ⟨by rfl, fun W hW => by go_simp; try rfl⟩) hS0 ?_
  try simp only [Act.put, List.setIfInBounds_toArray, List.set_cons_zero, List.set_cons_succ]
  refine wpAnyS_take (i := 2) (d := some 30) rfl rfl rfl (by kernel_rfl) (by kernel_rfl) (by kernel_rfl) (by kernel_rfl) (fun _ _ _ h => h) (.inl ⟨by rfl, fun W hW => by go_simp; try rfl⟩) hS0 ?_
  try simp only [Act.put, List.setIfInBounds_toArray, List.set_cons_zero, List.set_cons_succ]
  refine wpAnyS_call (i := 3) (d := some 31) (f := 115) (args := #[.slice (some ⟨g, 0, none⟩) un uc]) (w' := W1) (by kernel_rfl) rfl rfl (by rfl) (by go_simp; try rfl) ?_
  refine (fsummed_any _ F W1 (by have := HB.out.1.slice u8c_len; rwa [← HUN.out] at this) (by rw [← HUN.out]; exact hu11) (by rw [← HUN.out]; exact huL)).mono ?_
  rintro e w7 ⟨v7, rfl, own7, b7⟩
  have ec : (F.take 7).drop 2 ++ F.drop 11 = headB k body ++ body := by rw [← H6.out.2.2, wrap_p3]; rfl
  rw [ec] at own7
  clear ec
  refine ⟨_, rfl, fun _ => trivial, ?_⟩
  try simp only [Act.put, List.setIfInBounds_toArray, List.set_cons_zero, List.set_cons_succ]
  refine wpAnyS_call (i := 4) (d := some 32) (f := 114) (args := #[v7]) (w' := w7) (by kernel_rfl) rfl rfl (by rfl) (by go_simp; try rfl) ?_
  refine (sum_any v7 _ w7 (own7.slice u8c_len)).mono ?_
  rintro e w8 ⟨rfl, b8⟩
  have HC := Lib.hid (crcB_lt (headB k body ++ body))
  obtain ⟨c, hc⟩ : ∃ c, crcB (headB k body ++ body) = c := ⟨_, rfl⟩
  have HCC := Lib.hid hc
  rw [hc] at HC ⊢
  clear hc
  have b17 : Below W1.heap.size W1 w8 := b7.trans (b8.mono b7.size)
  have own8 := HB.out.1.below1 b17
  have b08 : Below w.heap.size w w8 := HB.out.2.trans (b17.mono HB.out.2.size)
  refine ⟨_, rfl, fun _ => trivial, ?_⟩
  try simp only [Act.put, List.setIfInBounds_toArray, List.set_cons_zero, List.set_cons_succ]
  refine wpAnyS_call (i := 5) (d := some 33) (f := 113) (args := #[.slice (some ⟨g, 7, none⟩) (un - 7) (uc - 7), .int .u32 (c : Int)]) (w' := w8) (by kernel_rfl) rfl rfl (by rfl) (by go_simp; try rfl) ?_
  refine (fput_any own8 HC.out (by rw [← HUN.out]; omega) (by omega) (by omega)).mono ?_
  rintro e w9 ⟨⟨v9, rfl⟩, own9, x9⟩
  have own9b : Own u8c 1 5 w.heap.size w9 (.slice (some ⟨g, 0, none⟩) F.length uc) (wrapB k body) := by
    rw [← H6.out.2.2, wrap_p2, ← HCC.out] at own9
    rw [← H6.out.2.2]
    exact own9
  have b09 : Below w.heap.size w w9 := Ext.new b08 x9 (fun i hi _ e => by omega) b08.size
  have HF := Lib.hid (And.intro own9b b09)
  clear own9 own9b b09 x9 own8 b08 b17 b8 own7 b7
  refine ⟨_, rfl, fun _ => trivial, ?_⟩
  try simp only [Act.put, List.setIfInBounds_toArray, List.set_cons_zero, List.set_cons_succ]
  refine wpAnyS_done (by kernel_rfl) ?_ _
  go_wp2_with fail
  go_ret2
  have HF2 := HF.out
  rw [← HUN.out] at HF2
  exact .inl ⟨hN2, _, rfl, HF2.1, HF2.2⟩
end Go.Proofs.YtgmdimbiipemhaaGreatDoor
namespace Go.Proofs.YtgmdimbiipemhaaGreatDoor
open Go.RowKit Go.Deep
set_option linter.unusedSimpArgs false
set_option linter.unusedVariables false
theorem results_tmp4 {fn : Func} {t u v x : Tmp} (h : fn.results = #[.tmp t, .tmp u, .tmp v, .tmp x]) (tmps : Array Value) (P : Program) (w : World) :
    (results fn tmps).run P w = .ok (.tuple #[tmps.getD t undef, tmps.getD u undef, tmps.getD v undef, tmps.getD x undef]) w := by
  simp [results, h]
theorem copy_bytes {base g cap : Nat} {W : World} {l xs : List UInt8} {vx : Value} (ho : Own u8c 1 5 base W (.slice (some ⟨g, 0, none⟩) l.length cap) l) (hx : SliceIs u8c 1 W vx xs) (hl : xs.length ≤ l.length) :
    ∃ W', (Builtin.copy_ #[22, 22] 3 #[.slice (some ⟨g, 0, none⟩) l.length cap, vx]).run Tryz.prog W = .ok (.int .i64 (xs.length : Int)) W' ∧ Own u8c 1 5 base W' (.slice (some ⟨g, 0, none⟩) l.length cap) (xs ++ l.drop xs.length) ∧ Ext (· = g) W W' := by
  obtain ⟨a, c, rfl, h1, h2, h3⟩ := hx
  by_cases hne : xs = []
  · subst hne
    refine ⟨W, run_copy_none W _ _ _ _ _ _ _ _ _ _ Tryz.underlying22 size_u8 (by simp), ho, Ext.refl _ _⟩
  · obtain ⟨b, off, rfl, h4⟩ := h3 hne
    obtain ⟨cur, hcur⟩ := ho.tag (b := g) rfl
    have hxl : (xs.flatMap u8c).length = xs.length := by rw [length_flatMap_k u8c_len, Nat.mul_one]
    have hcs : l.length ≤ cur.size := by
      obtain ⟨_, h3⟩ := ho
      rcases h3 with ⟨e, _⟩ | ⟨g', cap', cur', e, hb, hg', hn, hm, hs, ht⟩
      · cases e
      · cases e
        rw [hcur] at hg'
        cases hg'
        omega
    have hcp := run_copy_row (P := Tryz.prog) W 22 22 3 5 g 0 l.length cap ⟨b, off, none⟩ xs.length c cur 5 (xs.flatMap u8c) Tryz.underlying22 size_u8 hcur (by rw [hxl]; exact (Nat.min_eq_left hl).symm)
      (fun j v hj => by
        have hjl := (List.getElem?_eq_some_iff.1 hj).1
        rw [hxl] at hjl
        obtain ⟨x, hx⟩ : ∃ x, xs[j]? = some x := ⟨_, List.getElem?_eq_getElem hjl⟩
        have h5 := getElem?_flatMap_k u8c_len xs j x hx 0 _ rfl
        rw [Nat.mul_one, Nat.add_zero, hj] at h5
        cases h5
        have h6 := h4 j x hx 0 _ rfl
        rw [Nat.mul_one, Nat.add_zero] at h6
        rw [addr_add8]
        exact h6) (by rw [hxl]; omega) (fun v hv => by obtain ⟨x, _, hx⟩ := List.mem_flatMap.1 hv; exact u8c_one x v hx)
    rw [hxl] at hcp
    refine ⟨_, hcp, ?_, ext_setRow1 _ _ _⟩
    have h5 := ho.splice (xs := xs) u8c_len hcur 0 (by omega)
    rw [List.take_zero, List.nil_append, Nat.zero_add] at h5
    rw [Nat.zero_add]
    exact h5
theorem take_none (c : Int) (w : World) : Calls Tryz.prog 162 #[.int .i64 c] w fun e w' => e = .returned (.tuple #[.int .u8 0, .slice none 0 0, .int .i64 0, .int .i64 c]) ∧ w = w' := by
  go_enter Tryz.func162, Tryz.ntmps162
  go_wp2
  refine bodyPost_ret (results_tmp4 rfl _ _ _) rfl ?_
  exact ⟨rfl, rfl⟩
def TakeFPost (w : World) (b : List UInt8) (e : Ending) (w' : World) : Prop :=
  (∃ k body v, takeF b = some (k, body) ∧ e = .returned (.tuple #[.int .u8 (k.toNat : Int), v, .int .i64 ((11 + body.length : Nat) : Int), .int .i64 0]) ∧ Own u8c 1 5 w.heap.size w' v body ∧ Below w.heap.size w w') ∨
  (takeF b = none ∧ (∃ c : Int, c ≠ 0 ∧ e = .returned (.tuple #[.int .u8 0, .slice none 0 0, .int .i64 0, .int .i64 c])) ∧ Below w.heap.size w w')
theorem take_eleven (m0 m1 k a0 a1 a2 a3 s0 s1 s2 s3 : UInt8) (r : List UInt8) (n : Nat) : (m0 :: m1 :: k :: a0 :: a1 :: a2 :: a3 :: s0 :: s1 :: s2 :: s3 :: r).take (11 + n) = m0 :: m1 :: k :: a0 :: a1 :: a2 :: a3 :: s0 :: s1 :: s2 :: s3 :: r.take n := by
  rw [Nat.add_comm]
  simp
theorem takeF_mark {b : List UInt8} (h : takeF b ≠ none) : b.take 2 = [83, 84] := by
  by_cases hl : 11 ≤ b.length
  · obtain ⟨m0, m1, k, a0, a1, a2, a3, s0, s1, s2, s3, r, rfl⟩ := eleven hl
    rw [takeF_eq] at h
    split at h
    · rename_i hc
      obtain ⟨rfl, rfl, _⟩ := hc
      rfl
    · exact absurd rfl h
  · exact absurd (takeF_short (by omega)) h
theorem take_l4 {b l4 : List UInt8} (h7 : 7 ≤ b.length) (hl : (b.take 7).drop 3 ++ (List.replicate 4 (0 : UInt8)).drop ((b.take 7).drop 3).length = l4) : l4 = (b.take 7).drop 3 := by
  have e : ((b.take 7).drop 3).length = 4 := by simp only [List.length_drop, List.length_take]; omega
  rw [← hl, e]
  simp
theorem takeF_no1 {b : List UInt8} (h7 : 7 ≤ b.length) {N : Nat} (hN : fourK ((b.take 7).drop 3) 4 = N) (h : 65536 < N ∨ b.length < 11 + N) : takeF b = none := by
  by_cases hl : 11 ≤ b.length
  · obtain ⟨m0, m1, k, a0, a1, a2, a3, s0, s1, s2, s3, r, rfl⟩ := eleven hl
    have e : ((m0 :: m1 :: k :: a0 :: a1 :: a2 :: a3 :: s0 :: s1 :: s2 :: s3 :: r).take 7).drop 3 = [a0, a1, a2, a3] := rfl
    rw [e, fourK_four] at hN
    simp only [List.length_cons] at h
    exact takeF_bad (fun hc => by rw [hN] at hc; omega)
  · exact takeF_short (by omega)
theorem takeF_sum {b : List UInt8} (h11 : 11 ≤ b.length) {N : Nat} (hN : fourK ((b.take 7).drop 3) 4 = N) (hb : N ≤ 65536) (hl : 11 + N ≤ b.length) (hm : b.take 2 = [83, 84]) :
    (fourK ((b.take (11 + N)).drop 7) 4 = crcB (((b.take (11 + N)).take 7).drop 2 ++ (b.take (11 + N)).drop 11) → ∃ k, b[2]? = some k ∧ takeF b = some (k, (b.take (11 + N)).drop 11)) ∧
    (¬ fourK ((b.take (11 + N)).drop 7) 4 = crcB (((b.take (11 + N)).take 7).drop 2 ++ (b.take (11 + N)).drop 11) → takeF b = none) := by
  obtain ⟨m0, m1, k, a0, a1, a2, a3, s0, s1, s2, s3, r, rfl⟩ := eleven h11
  have e : ((m0 :: m1 :: k :: a0 :: a1 :: a2 :: a3 :: s0 :: s1 :: s2 :: s3 :: r).take 7).drop 3 = [a0, a1, a2, a3] := rfl
  rw [e, fourK_four] at hN
  have em : (m0 :: m1 :: k :: a0 :: a1 :: a2 :: a3 :: s0 :: s1 :: s2 :: s3 :: r).take 2 = [m0, m1] := rfl
  rw [em] at hm
  simp only [List.cons.injEq, and_true] at hm
  obtain ⟨rfl, rfl⟩ := hm
  simp only [List.length_cons] at hl
  rw [take_eleven]
  obtain ⟨d, hd⟩ : ∃ d, r.take N = d := ⟨_, rfl⟩
  rw [hd]
  have e7 : (83 :: 84 :: k :: a0 :: a1 :: a2 :: a3 :: s0 :: s1 :: s2 :: s3 :: d).drop 7 = s0 :: s1 :: s2 :: s3 :: d := rfl
  have e2 : ((83 :: 84 :: k :: a0 :: a1 :: a2 :: a3 :: s0 :: s1 :: s2 :: s3 :: d).take 7).drop 2 = [k, a0, a1, a2, a3] := rfl
  have e11 : (83 :: 84 :: k :: a0 :: a1 :: a2 :: a3 :: s0 :: s1 :: s2 :: s3 :: d).drop 11 = d := rfl
  rw [e7, e2, e11, fourK_four]
  constructor
  · intro h
    refine ⟨k, rfl, ?_⟩
    rw [takeF_eq, hN, hd]
    exact if_pos ⟨rfl, rfl, hb, by omega, h⟩
  · intro h
    refine takeF_bad (fun hc => ?_)
    rw [hN, hd] at hc
    exact h hc.2.2.2.2
theorem mark_slice : (∀ W, (Instr.slice 9 (.string ⟨#[83, 84]⟩) none (some (.int .i64 0)) none).run Tryz.prog W = .ok (.string ⟨([] : List UInt8).toArray⟩) W) ∧ (∀ W, (Instr.slice 9 (.string ⟨#[83, 84]⟩) none (some (.int .i64 1)) none).run Tryz.prog W = .ok (.string ⟨([83] : List UInt8).toArray⟩) W) ∧ (∀ W, (Instr.slice 9 (.string ⟨#[83, 84]⟩) none (some (.int .i64 2)) none).run Tryz.prog W = .ok (.string ⟨([83, 84] : List UInt8).toArray⟩) W) :=
  ⟨fun W => by kernel_rfl, fun W => by kernel_rfl, fun W => by kernel_rfl⟩
set_option maxRecDepth 20000 in
set_option maxHeartbeats 8000000 in
theorem taken_any (v : Value) (b : List UInt8) (w : World) (h : SliceIs u8c 1 w v b) : Calls Tryz.prog 111 #[v] w fun e w' => TakeFPost w b e w' := by
  obtain ⟨a, cap, rfl, hcap, hmax, -⟩ := id h
  unfold maxLen at hmax
  obtain ⟨n, hn⟩ : ∃ n, b.length = n := ⟨_, rfl⟩
  rw [hn] at h hcap ⊢
  have HH := Lib.hid h
  clear h
  by_cases hp2 : 2 ≤ n
  · by_cases hmk2 : b.take 2 = [83, 84]
    · have HEQ : Hid ((⟨(b.take 2).toArray⟩ : ByteArray) = ⟨([83, 84] : List UInt8).toArray⟩) := Lib.hid (by rw [hmk2])
      have hmk3 := hmk2
      clear hmk2
      by_cases hbg : 7 < n
      rotate_left
      · have h27 : n = 2 ∨ n = 3 ∨ n = 4 ∨ n = 5 ∨ n = 6 ∨ n = 7 := by omega
        have HNO := Lib.hid (takeF_short (b := b) (by omega))
        rcases h27 with rfl | rfl | rfl | rfl | rfl | rfl
        · skip
          clear hmk3
          obtain ⟨a3, hs3, hS3⟩ := slice_to21 (P := Tryz.prog) (ea := u8c) Tryz.underlying22 size_u8 a 2 cap 2 hcap (by omega)
          have hr3 : ∀ W, (Instr.slice 22 (.slice a 2 cap) none (some (.int .i64 2)) none).run Tryz.prog W = .ok (.slice a3 2 cap) W := hs3
          have hm3 := mark_slice.2.2
          have hq3 := hS3 w b hn HH.out
          clear hs3 hS3
          have hmin2 : min (2 : Int) 2 = 2 := by omega
          have hmin3 : min (2 : Int) 3 = 2 := by omega
          have hmin7 : min (2 : Int) 7 = 2 := by omega
          go_enter Tryz.func111, Tryz.ntmps111
          go_upto_region 3 with fail
          refine wp_region_s (fun W : World => SliceIs u8c 1 W (.slice a3 2 cap) (b.take 2)) (fun _ => false) (by kernel_rfl) ?_
          have hS0 : (fun W : World => SliceIs u8c 1 W (.slice a3 2 cap) (b.take 2)) w.drew := hq3.below (Below.refl _ _).drew
          have HW : Hid (SliceIs u8c 1 w.drew (.slice a 2 cap) b ∧ Below w.heap.size w w.drew) := Lib.hid ⟨HH.out.below (Below.refl _ _).drew, (Below.refl _ _).drew⟩
          clear hq3
          have hsz : w.drew.heap.size = w.heap.size := rfl
          generalize w.drew = W1 at hS0 HW hsz ⊢
          have HSZ := Lib.hid hsz
          clear hsz
          refine wpAnyS_take (i := 0) (d := some 14) rfl rfl rfl (by kernel_rfl) (by kernel_rfl) (by kernel_rfl) (by kernel_rfl) (fun _ _ _ h => h) (.inl ⟨by rfl, fun W hW => by go_simp; try rfl⟩) hS0 ?_
          try simp only [Act.put, List.setIfInBounds_toArray, List.set_cons_zero, List.set_cons_succ]
          refine wpAnyS_take (i := 1) (d := some 15) rfl rfl rfl (by kernel_rfl) (by kernel_rfl) (by kernel_rfl) (by kernel_rfl) (fun _ _ _ h => h) (.inl ⟨by rfl, fun W hW => by go_simp; try rfl⟩) hS0 ?_
          try simp only [Act.put, List.setIfInBounds_toArray, List.set_cons_zero, List.set_cons_succ]
          refine wpAnyS_take (i := 2) (d := some 16) (v := .slice a3 2 cap) rfl rfl rfl (by kernel_rfl) (by kernel_rfl) (by kernel_rfl) (by kernel_rfl) (fun _ _ _ h => h) (.inl ⟨by rfl, fun W hW => by go_simp; try rfl⟩) hS0 ?_
          try simp only [Act.put, List.setIfInBounds_toArray, List.set_cons_zero, List.set_cons_succ]
          refine wpAnyS_take (i := 3) (d := some 17) (v := .string ⟨(b.take 2).toArray⟩) rfl rfl rfl (by kernel_rfl) (by kernel_rfl) (by kernel_rfl) (by kernel_rfl) (fun _ _ _ h => h) (.inl ⟨by rfl, fun W hW => by have q3 := conv_bytes hW; go_simp; try rfl⟩) hS0 ?_
          try simp only [Act.put, List.setIfInBounds_toArray, List.set_cons_zero, List.set_cons_succ]
          refine wpAnyS_take (i := 4) (d := some 18) rfl rfl rfl (by kernel_rfl) (by kernel_rfl) (by kernel_rfl) (by kernel_rfl) (fun _ _ _ h => h) (.inl ⟨by rfl, fun W hW => by go_simp; try rfl⟩) hS0 ?_
          try simp only [Act.put, List.setIfInBounds_toArray, List.set_cons_zero, List.set_cons_succ]
          refine wpAnyS_take (i := 5) (d := some 19) (v := .string ⟨([83, 84] : List UInt8).toArray⟩) rfl rfl rfl (by kernel_rfl) (by kernel_rfl) (by kernel_rfl) (by kernel_rfl) (fun _ _ _ h => h) (.inl ⟨by rfl, fun W hW => by go_simp; try rfl⟩) hS0 ?_
          try simp only [Act.put, List.setIfInBounds_toArray, List.set_cons_zero, List.set_cons_succ]
          refine wpAnyS_take (i := 6) (d := some 20) (v := .bool false) rfl rfl rfl (by kernel_rfl) (by kernel_rfl) (by kernel_rfl) (by kernel_rfl) (fun _ _ _ h => h) (.inl ⟨by rfl, fun W hW => by have q4 := HEQ.out; go_simp; try rfl⟩) hS0 ?_
          try simp only [Act.put, List.setIfInBounds_toArray, List.set_cons_zero, List.set_cons_succ]
          refine wpAnyS_done (by kernel_rfl) ?_ _
          clear hS0 hr3 hm3
          obtain ⟨i0, hi, hy0, hy1, hy2⟩ := info_parts info_u8
          have hmk : (Instr.makeSlice 22 (.int .i64 4) (.int .i64 4)).run Tryz.prog W1 = .ok (.slice (some ⟨W1.heap.size, 0, none⟩) 4 4) (W1.alloc (.cells (madeCells (Value.int .u8 0).cells (4 * 1)) 5)) := by
            have h := run_make (P := Tryz.prog) W1 22 5 i0 _ Tryz.underlying22 hi hy0 .i64 .i64 4 4 (by omega) (by omega) (by rw [hy2]; omega) (by omega)
            rw [hy1] at h
            exact h
          clear hi hy0 hy1 hy2
          have b2 : Below W1.heap.size W1 (W1.alloc (.cells (madeCells (Value.int .u8 0).cells (4 * 1)) 5)) := (Below.refl _ _).alloc (Nat.le_refl _) _
          have ho2 := own_zero (base := W1.heap.size) (n := 4) (cap := 4) (W := W1) (Nat.le_refl _) (by omega) (by omega)
          obtain ⟨w2, hw2⟩ : ∃ w2, W1.alloc (.cells (madeCells (Value.int .u8 0).cells (4 * 1)) 5) = w2 := ⟨_, rfl⟩
          rw [hw2] at hmk b2 ho2
          clear hw2
          obtain ⟨a6, c6, hs6, hS6⟩ := slice_mid21 (P := Tryz.prog) (ea := u8c) Tryz.underlying22 size_u8 a 2 cap 2 2 hcap (by omega) (by omega)
          have hr6 : ∀ W, (Instr.slice 22 (.slice a 2 cap) (some (.int .i64 2)) (some (.int .i64 2)) none).run Tryz.prog W = .ok (.slice a6 0 c6) W := hs6
          have hq6 : SliceIs u8c 1 w2 (.slice a6 0 c6) ((b.take 2).drop 2) := hS6 w2 b hn (HW.out.1.below b2)
          obtain ⟨w3, hcp, ho3, x3⟩ := copy_bytes (l := List.replicate 4 (0 : UInt8)) ho2 hq6 (by simp <;> omega)
          have b3 : Below W1.heap.size W1 w3 := Ext.new b2 x3 (fun i hi _ e => by omega) b2.size
          rw [show (List.replicate 4 (0 : UInt8)).length = 4 from rfl] at hcp ho3
          clear hs6 hS6 hq6 ho2 x3 b2
          obtain ⟨l4, hl4⟩ : ∃ l4, (b.take 2).drop 2 ++ (List.replicate 4 (0 : UInt8)).drop ((b.take 2).drop 2).length = l4 := ⟨_, rfl⟩
          obtain ⟨xl, hxl⟩ : ∃ xl, ((b.take 2).drop 2).length = xl := ⟨_, rfl⟩
          rw [hl4] at ho3
          have hl44 : l4.length = 4 := by rw [← hl4]; simp only [List.length_append, List.length_drop, List.length_take, List.length_replicate]; omega
          rw [hxl] at hcp
          have hg4 := ho3.slice u8c_len
          have HB : Hid (Below w.heap.size w w3 ∧ SliceIs u8c 1 w3 (.slice a 2 cap) b) := Lib.hid ⟨HW.out.2.trans (b3.mono (by rw [HSZ.out]; exact Nat.le_refl _)), HW.out.1.below b3⟩
          have H4 := Lib.hid (And.intro hg4 (And.intro hl44 hl4))
          clear hxl hl4 hl44 hg4 ho3 b3
          go_wp2_with (with_reducible refine Lib.wpList_copy_run _ rfl _ _ _ _ rfl _ _ rfl rfl hcp ?_)
          clear hcp hmk hr6
          refine (fget_any _ l4 _ H4.out.1 (by rw [H4.out.2.1]; omega)).mono ?_
          rintro e w4 ⟨rfl, rfl⟩
          obtain ⟨N, hN⟩ : ∃ N, fourK l4 4 = N := ⟨_, rfl⟩
          have hNlt : N < 4294967296 := by rw [← hN]; exact fourK_lt l4 4
          rw [hN]
          have HNN := Lib.hid hN
          clear hN
          by_cases hbig : 65536 < N
          · have hb1 : (65536 : Int) < (N : Int) := by omega
            go_wp2_with (go_at_call 162; refine (take_none _ _).mono ?_; rintro e w9 ⟨rfl, rfl⟩)
            (try simp only [Exit.inBlock, Exit.then])
            refine bodyPost_ret (results_tmp4 rfl _ _ _) rfl ?_
            exact .inr ⟨HNO.out, ⟨_, by decide, rfl⟩, (by first | exact HB.out.1 | exact HB.out)⟩
          · have hb1 : ¬ (65536 : Int) < (N : Int) := by omega
            go_wp2_with (go_at_call 162; refine (take_none _ _).mono ?_; rintro e w9 ⟨rfl, rfl⟩)
            (try simp only [Exit.inBlock, Exit.then])
            refine bodyPost_ret (results_tmp4 rfl _ _ _) rfl ?_
            exact .inr ⟨HNO.out, ⟨_, by decide, rfl⟩, (by first | exact HB.out.1 | exact HB.out)⟩
        · skip
          clear hmk3
          obtain ⟨a3, hs3, hS3⟩ := slice_to21 (P := Tryz.prog) (ea := u8c) Tryz.underlying22 size_u8 a 3 cap 2 hcap (by omega)
          have hr3 : ∀ W, (Instr.slice 22 (.slice a 3 cap) none (some (.int .i64 2)) none).run Tryz.prog W = .ok (.slice a3 2 cap) W := hs3
          have hm3 := mark_slice.2.2
          have hq3 := hS3 w b hn HH.out
          clear hs3 hS3
          have hmin2 : min (3 : Int) 2 = 2 := by omega
          have hmin3 : min (3 : Int) 3 = 3 := by omega
          have hmin7 : min (3 : Int) 7 = 3 := by omega
          go_enter Tryz.func111, Tryz.ntmps111
          go_upto_region 3 with fail
          refine wp_region_s (fun W : World => SliceIs u8c 1 W (.slice a3 2 cap) (b.take 2)) (fun _ => false) (by kernel_rfl) ?_
          have hS0 : (fun W : World => SliceIs u8c 1 W (.slice a3 2 cap) (b.take 2)) w.drew := hq3.below (Below.refl _ _).drew
          have HW : Hid (SliceIs u8c 1 w.drew (.slice a 3 cap) b ∧ Below w.heap.size w w.drew) := Lib.hid ⟨HH.out.below (Below.refl _ _).drew, (Below.refl _ _).drew⟩
          clear hq3
          have hsz : w.drew.heap.size = w.heap.size := rfl
          generalize w.drew = W1 at hS0 HW hsz ⊢
          have HSZ := Lib.hid hsz
          clear hsz
          refine wpAnyS_take (i := 0) (d := some 14) rfl rfl rfl (by kernel_rfl) (by kernel_rfl) (by kernel_rfl) (by kernel_rfl) (fun _ _ _ h => h) (.inl ⟨by rfl, fun W hW => by go_simp; try rfl⟩) hS0 ?_
          try simp only [Act.put, List.setIfInBounds_toArray, List.set_cons_zero, List.set_cons_succ]
          refine wpAnyS_take (i := 1) (d := some 15) rfl rfl rfl (by kernel_rfl) (by kernel_rfl) (by kernel_rfl) (by kernel_rfl) (fun _ _ _ h => h) (.inl ⟨by rfl, fun W hW => by go_simp; try rfl⟩) hS0 ?_
          try simp only [Act.put, List.setIfInBounds_toArray, List.set_cons_zero, List.set_cons_succ]
          refine wpAnyS_take (i := 2) (d := some 16) (v := .slice a3 2 cap) rfl rfl rfl (by kernel_rfl) (by kernel_rfl) (by kernel_rfl) (by kernel_rfl) (fun _ _ _ h => h) (.inl ⟨by rfl, fun W hW => by go_simp; try rfl⟩) hS0 ?_
          try simp only [Act.put, List.setIfInBounds_toArray, List.set_cons_zero, List.set_cons_succ]
          refine wpAnyS_take (i := 3) (d := some 17) (v := .string ⟨(b.take 2).toArray⟩) rfl rfl rfl (by kernel_rfl) (by kernel_rfl) (by kernel_rfl) (by kernel_rfl) (fun _ _ _ h => h) (.inl ⟨by rfl, fun W hW => by have q3 := conv_bytes hW; go_simp; try rfl⟩) hS0 ?_
          try simp only [Act.put, List.setIfInBounds_toArray, List.set_cons_zero, List.set_cons_succ]
          refine wpAnyS_take (i := 4) (d := some 18) rfl rfl rfl (by kernel_rfl) (by kernel_rfl) (by kernel_rfl) (by kernel_rfl) (fun _ _ _ h => h) (.inl ⟨by rfl, fun W hW => by go_simp; try rfl⟩) hS0 ?_
          try simp only [Act.put, List.setIfInBounds_toArray, List.set_cons_zero, List.set_cons_succ]
          refine wpAnyS_take (i := 5) (d := some 19) (v := .string ⟨([83, 84] : List UInt8).toArray⟩) rfl rfl rfl (by kernel_rfl) (by kernel_rfl) (by kernel_rfl) (by kernel_rfl) (fun _ _ _ h => h) (.inl ⟨by rfl, fun W hW => by go_simp; try rfl⟩) hS0 ?_
          try simp only [Act.put, List.setIfInBounds_toArray, List.set_cons_zero, List.set_cons_succ]
          refine wpAnyS_take (i := 6) (d := some 20) (v := .bool false) rfl rfl rfl (by kernel_rfl) (by kernel_rfl) (by kernel_rfl) (by kernel_rfl) (fun _ _ _ h => h) (.inl ⟨by rfl, fun W hW => by have q4 := HEQ.out; go_simp; try rfl⟩) hS0 ?_
          try simp only [Act.put, List.setIfInBounds_toArray, List.set_cons_zero, List.set_cons_succ]
          refine wpAnyS_done (by kernel_rfl) ?_ _
          clear hS0 hr3 hm3
          obtain ⟨i0, hi, hy0, hy1, hy2⟩ := info_parts info_u8
          have hmk : (Instr.makeSlice 22 (.int .i64 4) (.int .i64 4)).run Tryz.prog W1 = .ok (.slice (some ⟨W1.heap.size, 0, none⟩) 4 4) (W1.alloc (.cells (madeCells (Value.int .u8 0).cells (4 * 1)) 5)) := by
            have h := run_make (P := Tryz.prog) W1 22 5 i0 _ Tryz.underlying22 hi hy0 .i64 .i64 4 4 (by omega) (by omega) (by rw [hy2]; omega) (by omega)
            rw [hy1] at h
            exact h
          clear hi hy0 hy1 hy2
          have b2 : Below W1.heap.size W1 (W1.alloc (.cells (madeCells (Value.int .u8 0).cells (4 * 1)) 5)) := (Below.refl _ _).alloc (Nat.le_refl _) _
          have ho2 := own_zero (base := W1.heap.size) (n := 4) (cap := 4) (W := W1) (Nat.le_refl _) (by omega) (by omega)
          obtain ⟨w2, hw2⟩ : ∃ w2, W1.alloc (.cells (madeCells (Value.int .u8 0).cells (4 * 1)) 5) = w2 := ⟨_, rfl⟩
          rw [hw2] at hmk b2 ho2
          clear hw2
          obtain ⟨a6, c6, hs6, hS6⟩ := slice_mid21 (P := Tryz.prog) (ea := u8c) Tryz.underlying22 size_u8 a 3 cap 3 3 hcap (by omega) (by omega)
          have hr6 : ∀ W, (Instr.slice 22 (.slice a 3 cap) (some (.int .i64 3)) (some (.int .i64 3)) none).run Tryz.prog W = .ok (.slice a6 0 c6) W := hs6
          have hq6 : SliceIs u8c 1 w2 (.slice a6 0 c6) ((b.take 3).drop 3) := hS6 w2 b hn (HW.out.1.below b2)
          obtain ⟨w3, hcp, ho3, x3⟩ := copy_bytes (l := List.replicate 4 (0 : UInt8)) ho2 hq6 (by simp <;> omega)
          have b3 : Below W1.heap.size W1 w3 := Ext.new b2 x3 (fun i hi _ e => by omega) b2.size
          rw [show (List.replicate 4 (0 : UInt8)).length = 4 from rfl] at hcp ho3
          clear hs6 hS6 hq6 ho2 x3 b2
          obtain ⟨l4, hl4⟩ : ∃ l4, (b.take 3).drop 3 ++ (List.replicate 4 (0 : UInt8)).drop ((b.take 3).drop 3).length = l4 := ⟨_, rfl⟩
          obtain ⟨xl, hxl⟩ : ∃ xl, ((b.take 3).drop 3).length = xl := ⟨_, rfl⟩
          rw [hl4] at ho3
          have hl44 : l4.length = 4 := by rw [← hl4]; simp only [List.length_append, List.length_drop, List.length_take, List.length_replicate]; omega
          rw [hxl] at hcp
          have hg4 := ho3.slice u8c_len
          have HB : Hid (Below w.heap.size w w3 ∧ SliceIs u8c 1 w3 (.slice a 3 cap) b) := Lib.hid ⟨HW.out.2.trans (b3.mono (by rw [HSZ.out]; exact Nat.le_refl _)), HW.out.1.below b3⟩
          have H4 := Lib.hid (And.intro hg4 (And.intro hl44 hl4))
          clear hxl hl4 hl44 hg4 ho3 b3
          go_wp2_with (with_reducible refine Lib.wpList_copy_run _ rfl _ _ _ _ rfl _ _ rfl rfl hcp ?_)
          clear hcp hmk hr6
          refine (fget_any _ l4 _ H4.out.1 (by rw [H4.out.2.1]; omega)).mono ?_
          rintro e w4 ⟨rfl, rfl⟩
          obtain ⟨N, hN⟩ : ∃ N, fourK l4 4 = N := ⟨_, rfl⟩
          have hNlt : N < 4294967296 := by rw [← hN]; exact fourK_lt l4 4
          rw [hN]
          have HNN := Lib.hid hN
          clear hN
          by_cases hbig : 65536 < N
          · have hb1 : (65536 : Int) < (N : Int) := by omega
            go_wp2_with (go_at_call 162; refine (take_none _ _).mono ?_; rintro e w9 ⟨rfl, rfl⟩)
            (try simp only [Exit.inBlock, Exit.then])
            refine bodyPost_ret (results_tmp4 rfl _ _ _) rfl ?_
            exact .inr ⟨HNO.out, ⟨_, by decide, rfl⟩, (by first | exact HB.out.1 | exact HB.out)⟩
          · have hb1 : ¬ (65536 : Int) < (N : Int) := by omega
            go_wp2_with (go_at_call 162; refine (take_none _ _).mono ?_; rintro e w9 ⟨rfl, rfl⟩)
            (try simp only [Exit.inBlock, Exit.then])
            refine bodyPost_ret (results_tmp4 rfl _ _ _) rfl ?_
            exact .inr ⟨HNO.out, ⟨_, by decide, rfl⟩, (by first | exact HB.out.1 | exact HB.out)⟩
        · skip
          clear hmk3
          obtain ⟨a3, hs3, hS3⟩ := slice_to21 (P := Tryz.prog) (ea := u8c) Tryz.underlying22 size_u8 a 4 cap 2 hcap (by omega)
          have hr3 : ∀ W, (Instr.slice 22 (.slice a 4 cap) none (some (.int .i64 2)) none).run Tryz.prog W = .ok (.slice a3 2 cap) W := hs3
          have hm3 := mark_slice.2.2
          have hq3 := hS3 w b hn HH.out
          clear hs3 hS3
          have hmin2 : min (4 : Int) 2 = 2 := by omega
          have hmin3 : min (4 : Int) 3 = 3 := by omega
          have hmin7 : min (4 : Int) 7 = 4 := by omega
          go_enter Tryz.func111, Tryz.ntmps111
          go_upto_region 3 with fail
          refine wp_region_s (fun W : World => SliceIs u8c 1 W (.slice a3 2 cap) (b.take 2)) (fun _ => false) (by kernel_rfl) ?_
          have hS0 : (fun W : World => SliceIs u8c 1 W (.slice a3 2 cap) (b.take 2)) w.drew := hq3.below (Below.refl _ _).drew
          have HW : Hid (SliceIs u8c 1 w.drew (.slice a 4 cap) b ∧ Below w.heap.size w w.drew) := Lib.hid ⟨HH.out.below (Below.refl _ _).drew, (Below.refl _ _).drew⟩
          clear hq3
          have hsz : w.drew.heap.size = w.heap.size := rfl
          generalize w.drew = W1 at hS0 HW hsz ⊢
          have HSZ := Lib.hid hsz
          clear hsz
          refine wpAnyS_take (i := 0) (d := some 14) rfl rfl rfl (by kernel_rfl) (by kernel_rfl) (by kernel_rfl) (by kernel_rfl) (fun _ _ _ h => h) (.inl ⟨by rfl, fun W hW => by go_simp; try rfl⟩) hS0 ?_
          try simp only [Act.put, List.setIfInBounds_toArray, List.set_cons_zero, List.set_cons_succ]
          refine wpAnyS_take (i := 1) (d := some 15) rfl rfl rfl (by kernel_rfl) (by kernel_rfl) (by kernel_rfl) (by kernel_rfl) (fun _ _ _ h => h) (.inl ⟨by rfl, fun W hW => by go_simp; try rfl⟩) hS0 ?_
          try simp only [Act.put, List.setIfInBounds_toArray, List.set_cons_zero, List.set_cons_succ]
          refine wpAnyS_take (i := 2) (d := some 16) (v := .slice a3 2 cap) rfl rfl rfl (by kernel_rfl) (by kernel_rfl) (by kernel_rfl) (by kernel_rfl) (fun _ _ _ h => h) (.inl ⟨by rfl, fun W hW => by go_simp; try rfl⟩) hS0 ?_
          try simp only [Act.put, List.setIfInBounds_toArray, List.set_cons_zero, List.set_cons_succ]
          refine wpAnyS_take (i := 3) (d := some 17) (v := .string ⟨(b.take 2).toArray⟩) rfl rfl rfl (by kernel_rfl) (by kernel_rfl) (by kernel_rfl) (by kernel_rfl) (fun _ _ _ h => h) (.inl ⟨by rfl, fun W hW => by have q3 := conv_bytes hW; go_simp; try rfl⟩) hS0 ?_
          try simp only [Act.put, List.setIfInBounds_toArray, List.set_cons_zero, List.set_cons_succ]
          refine wpAnyS_take (i := 4) (d := some 18) rfl rfl rfl (by kernel_rfl) (by kernel_rfl) (by kernel_rfl) (by kernel_rfl) (fun _ _ _ h => h) (.inl ⟨by rfl, fun W hW => by go_simp; try rfl⟩) hS0 ?_
          try simp only [Act.put, List.setIfInBounds_toArray, List.set_cons_zero, List.set_cons_succ]
          refine wpAnyS_take (i := 5) (d := some 19) (v := .string ⟨([83, 84] : List UInt8).toArray⟩) rfl rfl rfl (by kernel_rfl) (by kernel_rfl) (by kernel_rfl) (by kernel_rfl) (fun _ _ _ h => h) (.inl ⟨by rfl, fun W hW => by go_simp; try rfl⟩) hS0 ?_
          try simp only [Act.put, List.setIfInBounds_toArray, List.set_cons_zero, List.set_cons_succ]
          refine wpAnyS_take (i := 6) (d := some 20) (v := .bool false) rfl rfl rfl (by kernel_rfl) (by kernel_rfl) (by kernel_rfl) (by kernel_rfl) (fun _ _ _ h => h) (.inl ⟨by rfl, fun W hW => by have q4 := HEQ.out; go_simp; try rfl⟩) hS0 ?_
          try simp only [Act.put, List.setIfInBounds_toArray, List.set_cons_zero, List.set_cons_succ]
          refine wpAnyS_done (by kernel_rfl) ?_ _
          clear hS0 hr3 hm3
          obtain ⟨i0, hi, hy0, hy1, hy2⟩ := info_parts info_u8
          have hmk : (Instr.makeSlice 22 (.int .i64 4) (.int .i64 4)).run Tryz.prog W1 = .ok (.slice (some ⟨W1.heap.size, 0, none⟩) 4 4) (W1.alloc (.cells (madeCells (Value.int .u8 0).cells (4 * 1)) 5)) := by
            have h := run_make (P := Tryz.prog) W1 22 5 i0 _ Tryz.underlying22 hi hy0 .i64 .i64 4 4 (by omega) (by omega) (by rw [hy2]; omega) (by omega)
            rw [hy1] at h
            exact h
          clear hi hy0 hy1 hy2
          have b2 : Below W1.heap.size W1 (W1.alloc (.cells (madeCells (Value.int .u8 0).cells (4 * 1)) 5)) := (Below.refl _ _).alloc (Nat.le_refl _) _
          have ho2 := own_zero (base := W1.heap.size) (n := 4) (cap := 4) (W := W1) (Nat.le_refl _) (by omega) (by omega)
          obtain ⟨w2, hw2⟩ : ∃ w2, W1.alloc (.cells (madeCells (Value.int .u8 0).cells (4 * 1)) 5) = w2 := ⟨_, rfl⟩
          rw [hw2] at hmk b2 ho2
          clear hw2
          obtain ⟨a6, c6, hs6, hS6⟩ := slice_mid21 (P := Tryz.prog) (ea := u8c) Tryz.underlying22 size_u8 a 4 cap 3 4 hcap (by omega) (by omega)
          have hr6 : ∀ W, (Instr.slice 22 (.slice a 4 cap) (some (.int .i64 3)) (some (.int .i64 4)) none).run Tryz.prog W = .ok (.slice a6 1 c6) W := hs6
          have hq6 : SliceIs u8c 1 w2 (.slice a6 1 c6) ((b.take 4).drop 3) := hS6 w2 b hn (HW.out.1.below b2)
          obtain ⟨w3, hcp, ho3, x3⟩ := copy_bytes (l := List.replicate 4 (0 : UInt8)) ho2 hq6 (by simp <;> omega)
          have b3 : Below W1.heap.size W1 w3 := Ext.new b2 x3 (fun i hi _ e => by omega) b2.size
          rw [show (List.replicate 4 (0 : UInt8)).length = 4 from rfl] at hcp ho3
          clear hs6 hS6 hq6 ho2 x3 b2
          obtain ⟨l4, hl4⟩ : ∃ l4, (b.take 4).drop 3 ++ (List.replicate 4 (0 : UInt8)).drop ((b.take 4).drop 3).length = l4 := ⟨_, rfl⟩
          obtain ⟨xl, hxl⟩ : ∃ xl, ((b.take 4).drop 3).length = xl := ⟨_, rfl⟩
          rw [hl4] at ho3
          have hl44 : l4.length = 4 := by rw [← hl4]; simp only [List.length_append, List.length_drop, List.length_take, List.length_replicate]; omega
          rw [hxl] at hcp
          have hg4 := ho3.slice u8c_len
          have HB : Hid (Below w.heap.size w w3 ∧ SliceIs u8c 1 w3 (.slice a 4 cap) b) := Lib.hid ⟨HW.out.2.trans (b3.mono (by rw [HSZ.out]; exact Nat.le_refl _)), HW.out.1.below b3⟩
          have H4 := Lib.hid (And.intro hg4 (And.intro hl44 hl4))
          clear hxl hl4 hl44 hg4 ho3 b3
          go_wp2_with (with_reducible refine Lib.wpList_copy_run _ rfl _ _ _ _ rfl _ _ rfl rfl hcp ?_)
          clear hcp hmk hr6
          refine (fget_any _ l4 _ H4.out.1 (by rw [H4.out.2.1]; omega)).mono ?_
          rintro e w4 ⟨rfl, rfl⟩
          obtain ⟨N, hN⟩ : ∃ N, fourK l4 4 = N := ⟨_, rfl⟩
          have hNlt : N < 4294967296 := by rw [← hN]; exact fourK_lt l4 4
          rw [hN]
          have HNN := Lib.hid hN
          clear hN
          by_cases hbig : 65536 < N
          · have hb1 : (65536 : Int) < (N : Int) := by omega
            go_wp2_with (go_at_call 162; refine (take_none _ _).mono ?_; rintro e w9 ⟨rfl, rfl⟩)
            (try simp only [Exit.inBlock, Exit.then])
            refine bodyPost_ret (results_tmp4 rfl _ _ _) rfl ?_
            exact .inr ⟨HNO.out, ⟨_, by decide, rfl⟩, (by first | exact HB.out.1 | exact HB.out)⟩
          · have hb1 : ¬ (65536 : Int) < (N : Int) := by omega
            go_wp2_with (go_at_call 162; refine (take_none _ _).mono ?_; rintro e w9 ⟨rfl, rfl⟩)
            (try simp only [Exit.inBlock, Exit.then])
            refine bodyPost_ret (results_tmp4 rfl _ _ _) rfl ?_
            exact .inr ⟨HNO.out, ⟨_, by decide, rfl⟩, (by first | exact HB.out.1 | exact HB.out)⟩
        · skip
          clear hmk3
          obtain ⟨a3, hs3, hS3⟩ := slice_to21 (P := Tryz.prog) (ea := u8c) Tryz.underlying22 size_u8 a 5 cap 2 hcap (by omega)
          have hr3 : ∀ W, (Instr.slice 22 (.slice a 5 cap) none (some (.int .i64 2)) none).run Tryz.prog W = .ok (.slice a3 2 cap) W := hs3
          have hm3 := mark_slice.2.2
          have hq3 := hS3 w b hn HH.out
          clear hs3 hS3
          have hmin2 : min (5 : Int) 2 = 2 := by omega
          have hmin3 : min (5 : Int) 3 = 3 := by omega
          have hmin7 : min (5 : Int) 7 = 5 := by omega
          go_enter Tryz.func111, Tryz.ntmps111
          go_upto_region 3 with fail
          refine wp_region_s (fun W : World => SliceIs u8c 1 W (.slice a3 2 cap) (b.take 2)) (fun _ => false) (by kernel_rfl) ?_
          have hS0 : (fun W : World => SliceIs u8c 1 W (.slice a3 2 cap) (b.take 2)) w.drew := hq3.below (Below.refl _ _).drew
          have HW : Hid (SliceIs u8c 1 w.drew (.slice a 5 cap) b ∧ Below w.heap.size w w.drew) := Lib.hid ⟨HH.out.below (Below.refl _ _).drew, (Below.refl _ _).drew⟩
          clear hq3
          have hsz : w.drew.heap.size = w.heap.size := rfl
          generalize w.drew = W1 at hS0 HW hsz ⊢
          have HSZ := Lib.hid hsz
          clear hsz
          refine wpAnyS_take (i := 0) (d := some 14) rfl rfl rfl (by kernel_rfl) (by kernel_rfl) (by kernel_rfl) (by kernel_rfl) (fun _ _ _ h => h) (.inl ⟨by rfl, fun W hW => by go_simp; try rfl⟩) hS0 ?_
          try simp only [Act.put, List.setIfInBounds_toArray, List.set_cons_zero, List.set_cons_succ]
          refine wpAnyS_take (i := 1) (d := some 15) rfl rfl rfl (by kernel_rfl) (by kernel_rfl) (by kernel_rfl) (by kernel_rfl) (fun _ _ _ h => h) (.inl ⟨by rfl, fun W hW => by go_simp; try rfl⟩) hS0 ?_
          try simp only [Act.put, List.setIfInBounds_toArray, List.set_cons_zero, List.set_cons_succ]
          refine wpAnyS_take (i := 2) (d := some 16) (v := .slice a3 2 cap) rfl rfl rfl (by kernel_rfl) (by kernel_rfl) (by kernel_rfl) (by kernel_rfl) (fun _ _ _ h => h) (.inl ⟨by rfl, fun W hW => by go_simp; try rfl⟩) hS0 ?_
          try simp only [Act.put, List.setIfInBounds_toArray, List.set_cons_zero, List.set_cons_succ]
          refine wpAnyS_take (i := 3) (d := some 17) (v := .string ⟨(b.take 2).toArray⟩) rfl rfl rfl (by kernel_rfl) (by kernel_rfl) (by kernel_rfl) (by kernel_rfl) (fun _ _ _ h => h) (.inl ⟨by rfl, fun W hW => by have q3 := conv_bytes hW; go_simp; try rfl⟩) hS0 ?_
          try simp only [Act.put, List.setIfInBounds_toArray, List.set_cons_zero, List.set_cons_succ]
          refine wpAnyS_take (i := 4) (d := some 18) rfl rfl rfl (by kernel_rfl) (by kernel_rfl) (by kernel_rfl) (by kernel_rfl) (fun _ _ _ h => h) (.inl ⟨by rfl, fun W hW => by go_simp; try rfl⟩) hS0 ?_
          try simp only [Act.put, List.setIfInBounds_toArray, List.set_cons_zero, List.set_cons_succ]
          refine wpAnyS_take (i := 5) (d := some 19) (v := .string ⟨([83, 84] : List UInt8).toArray⟩) rfl rfl rfl (by kernel_rfl) (by kernel_rfl) (by kernel_rfl) (by kernel_rfl) (fun _ _ _ h => h) (.inl ⟨by rfl, fun W hW => by go_simp; try rfl⟩) hS0 ?_
          try simp only [Act.put, List.setIfInBounds_toArray, List.set_cons_zero, List.set_cons_succ]
          refine wpAnyS_take (i := 6) (d := some 20) (v := .bool false) rfl rfl rfl (by kernel_rfl) (by kernel_rfl) (by kernel_rfl) (by kernel_rfl) (fun _ _ _ h => h) (.inl ⟨by rfl, fun W hW => by have q4 := HEQ.out; go_simp; try rfl⟩) hS0 ?_
          try simp only [Act.put, List.setIfInBounds_toArray, List.set_cons_zero, List.set_cons_succ]
          refine wpAnyS_done (by kernel_rfl) ?_ _
          clear hS0 hr3 hm3
          obtain ⟨i0, hi, hy0, hy1, hy2⟩ := info_parts info_u8
          have hmk : (Instr.makeSlice 22 (.int .i64 4) (.int .i64 4)).run Tryz.prog W1 = .ok (.slice (some ⟨W1.heap.size, 0, none⟩) 4 4) (W1.alloc (.cells (madeCells (Value.int .u8 0).cells (4 * 1)) 5)) := by
            have h := run_make (P := Tryz.prog) W1 22 5 i0 _ Tryz.underlying22 hi hy0 .i64 .i64 4 4 (by omega) (by omega) (by rw [hy2]; omega) (by omega)
            rw [hy1] at h
            exact h
          clear hi hy0 hy1 hy2
          have b2 : Below W1.heap.size W1 (W1.alloc (.cells (madeCells (Value.int .u8 0).cells (4 * 1)) 5)) := (Below.refl _ _).alloc (Nat.le_refl _) _
          have ho2 := own_zero (base := W1.heap.size) (n := 4) (cap := 4) (W := W1) (Nat.le_refl _) (by omega) (by omega)
          obtain ⟨w2, hw2⟩ : ∃ w2, W1.alloc (.cells (madeCells (Value.int .u8 0).cells (4 * 1)) 5) = w2 := ⟨_, rfl⟩
          rw [hw2] at hmk b2 ho2
          clear hw2
          obtain ⟨a6, c6, hs6, hS6⟩ := slice_mid21 (P := Tryz.prog) (ea := u8c) Tryz.underlying22 size_u8 a 5 cap 3 5 hcap (by omega) (by omega)
          have hr6 : ∀ W, (Instr.slice 22 (.slice a 5 cap) (some (.int .i64 3)) (some (.int .i64 5)) none).run Tryz.prog W = .ok (.slice a6 2 c6) W := hs6
          have hq6 : SliceIs u8c 1 w2 (.slice a6 2 c6) ((b.take 5).drop 3) := hS6 w2 b hn (HW.out.1.below b2)
          obtain ⟨w3, hcp, ho3, x3⟩ := copy_bytes (l := List.replicate 4 (0 : UInt8)) ho2 hq6 (by simp <;> omega)
          have b3 : Below W1.heap.size W1 w3 := Ext.new b2 x3 (fun i hi _ e => by omega) b2.size
          rw [show (List.replicate 4 (0 : UInt8)).length = 4 from rfl] at hcp ho3
          clear hs6 hS6 hq6 ho2 x3 b2
          obtain ⟨l4, hl4⟩ : ∃ l4, (b.take 5).drop 3 ++ (List.replicate 4 (0 : UInt8)).drop ((b.take 5).drop 3).length = l4 := ⟨_, rfl⟩
          obtain ⟨xl, hxl⟩ : ∃ xl, ((b.take 5).drop 3).length = xl := ⟨_, rfl⟩
          rw [hl4] at ho3
          have hl44 : l4.length = 4 := by rw [← hl4]; simp only [List.length_append, List.length_drop, List.length_take, List.length_replicate]; omega
          rw [hxl] at hcp
          have hg4 := ho3.slice u8c_len
          have HB : Hid (Below w.heap.size w w3 ∧ SliceIs u8c 1 w3 (.slice a 5 cap) b) := Lib.hid ⟨HW.out.2.trans (b3.mono (by rw [HSZ.out]; exact Nat.le_refl _)), HW.out.1.below b3⟩
          have H4 := Lib.hid (And.intro hg4 (And.intro hl44 hl4))
          clear hxl hl4 hl44 hg4 ho3 b3
          go_wp2_with (with_reducible refine Lib.wpList_copy_run _ rfl _ _ _ _ rfl _ _ rfl rfl hcp ?_)
          clear hcp hmk hr6
          refine (fget_any _ l4 _ H4.out.1 (by rw [H4.out.2.1]; omega)).mono ?_
          rintro e w4 ⟨rfl, rfl⟩
          obtain ⟨N, hN⟩ : ∃ N, fourK l4 4 = N := ⟨_, rfl⟩
          have hNlt : N < 4294967296 := by rw [← hN]; exact fourK_lt l4 4
          rw [hN]
          have HNN := Lib.hid hN
          clear hN
          by_cases hbig : 65536 < N
          · have hb1 : (65536 : Int) < (N : Int) := by omega
            go_wp2_with (go_at_call 162; refine (take_none _ _).mono ?_; rintro e w9 ⟨rfl, rfl⟩)
            (try simp only [Exit.inBlock, Exit.then])
            refine bodyPost_ret (results_tmp4 rfl _ _ _) rfl ?_
            exact .inr ⟨HNO.out, ⟨_, by decide, rfl⟩, (by first | exact HB.out.1 | exact HB.out)⟩
          · have hb1 : ¬ (65536 : Int) < (N : Int) := by omega
            go_wp2_with (go_at_call 162; refine (take_none _ _).mono ?_; rintro e w9 ⟨rfl, rfl⟩)
            (try simp only [Exit.inBlock, Exit.then])
            refine bodyPost_ret (results_tmp4 rfl _ _ _) rfl ?_
            exact .inr ⟨HNO.out, ⟨_, by decide, rfl⟩, (by first | exact HB.out.1 | exact HB.out)⟩
        · skip
          clear hmk3
          obtain ⟨a3, hs3, hS3⟩ := slice_to21 (P := Tryz.prog) (ea := u8c) Tryz.underlying22 size_u8 a 6 cap 2 hcap (by omega)
          have hr3 : ∀ W, (Instr.slice 22 (.slice a 6 cap) none (some (.int .i64 2)) none).run Tryz.prog W = .ok (.slice a3 2 cap) W := hs3
          have hm3 := mark_slice.2.2
          have hq3 := hS3 w b hn HH.out
          clear hs3 hS3
          have hmin2 : min (6 : Int) 2 = 2 := by omega
          have hmin3 : min (6 : Int) 3 = 3 := by omega
          have hmin7 : min (6 : Int) 7 = 6 := by omega
          go_enter Tryz.func111, Tryz.ntmps111
          go_upto_region 3 with fail
          refine wp_region_s (fun W : World => SliceIs u8c 1 W (.slice a3 2 cap) (b.take 2)) (fun _ => false) (by kernel_rfl) ?_
          have hS0 : (fun W : World => SliceIs u8c 1 W (.slice a3 2 cap) (b.take 2)) w.drew := hq3.below (Below.refl _ _).drew
          have HW : Hid (SliceIs u8c 1 w.drew (.slice a 6 cap) b ∧ Below w.heap.size w w.drew) := Lib.hid ⟨HH.out.below (Below.refl _ _).drew, (Below.refl _ _).drew⟩
          clear hq3
          have hsz : w.drew.heap.size = w.heap.size := rfl
          generalize w.drew = W1 at hS0 HW hsz ⊢
          have HSZ := Lib.hid hsz
          clear hsz
          refine wpAnyS_take (i := 0) (d := some 14) rfl rfl rfl (by kernel_rfl) (by kernel_rfl) (by kernel_rfl) (by kernel_rfl) (fun _ _ _ h => h) (.inl ⟨by rfl, fun W hW => by go_simp; try rfl⟩) hS0 ?_
          try simp only [Act.put, List.setIfInBounds_toArray, List.set_cons_zero, List.set_cons_succ]
          refine wpAnyS_take (i := 1) (d := some 15) rfl rfl rfl (by kernel_rfl) (by kernel_rfl) (by kernel_rfl) (by kernel_rfl) (fun _ _ _ h => h) (.inl ⟨by rfl, fun W hW => by go_simp; try rfl⟩) hS0 ?_
          try simp only [Act.put, List.setIfInBounds_toArray, List.set_cons_zero, List.set_cons_succ]
          refine wpAnyS_take (i := 2) (d := some 16) (v := .slice a3 2 cap) rfl rfl rfl (by kernel_rfl) (by kernel_rfl) (by kernel_rfl) (by kernel_rfl) (fun _ _ _ h => h) (.inl ⟨by rfl, fun W hW => by go_simp; try rfl⟩) hS0 ?_
          try simp only [Act.put, List.setIfInBounds_toArray, List.set_cons_zero, List.set_cons_succ]
          refine wpAnyS_take (i := 3) (d := some 17) (v := .string ⟨(b.take 2).toArray⟩) rfl rfl rfl (by kernel_rfl) (by kernel_rfl) (by kernel_rfl) (by kernel_rfl) (fun _ _ _ h => h) (.inl ⟨by rfl, fun W hW => by have q3 := conv_bytes hW; go_simp; try rfl⟩) hS0 ?_
          try simp only [Act.put, List.setIfInBounds_toArray, List.set_cons_zero, List.set_cons_succ]
          refine wpAnyS_take (i := 4) (d := some 18) rfl rfl rfl (by kernel_rfl) (by kernel_rfl) (by kernel_rfl) (by kernel_rfl) (fun _ _ _ h => h) (.inl ⟨by rfl, fun W hW => by go_simp; try rfl⟩) hS0 ?_
          try simp only [Act.put, List.setIfInBounds_toArray, List.set_cons_zero, List.set_cons_succ]
          refine wpAnyS_take (i := 5) (d := some 19) (v := .string ⟨([83, 84] : List UInt8).toArray⟩) rfl rfl rfl (by kernel_rfl) (by kernel_rfl) (by kernel_rfl) (by kernel_rfl) (fun _ _ _ h => h) (.inl ⟨by rfl, fun W hW => by go_simp; try rfl⟩) hS0 ?_
          try simp only [Act.put, List.setIfInBounds_toArray, List.set_cons_zero, List.set_cons_succ]
          refine wpAnyS_take (i := 6) (d := some 20) (v := .bool false) rfl rfl rfl (by kernel_rfl) (by kernel_rfl) (by kernel_rfl) (by kernel_rfl) (fun _ _ _ h => h) (.inl ⟨by rfl, fun W hW => by have q4 := HEQ.out; go_simp; try rfl⟩) hS0 ?_
          try simp only [Act.put, List.setIfInBounds_toArray, List.set_cons_zero, List.set_cons_succ]
          refine wpAnyS_done (by kernel_rfl) ?_ _
          clear hS0 hr3 hm3
          obtain ⟨i0, hi, hy0, hy1, hy2⟩ := info_parts info_u8
          have hmk : (Instr.makeSlice 22 (.int .i64 4) (.int .i64 4)).run Tryz.prog W1 = .ok (.slice (some ⟨W1.heap.size, 0, none⟩) 4 4) (W1.alloc (.cells (madeCells (Value.int .u8 0).cells (4 * 1)) 5)) := by
            have h := run_make (P := Tryz.prog) W1 22 5 i0 _ Tryz.underlying22 hi hy0 .i64 .i64 4 4 (by omega) (by omega) (by rw [hy2]; omega) (by omega)
            rw [hy1] at h
            exact h
          clear hi hy0 hy1 hy2
          have b2 : Below W1.heap.size W1 (W1.alloc (.cells (madeCells (Value.int .u8 0).cells (4 * 1)) 5)) := (Below.refl _ _).alloc (Nat.le_refl _) _
          have ho2 := own_zero (base := W1.heap.size) (n := 4) (cap := 4) (W := W1) (Nat.le_refl _) (by omega) (by omega)
          obtain ⟨w2, hw2⟩ : ∃ w2, W1.alloc (.cells (madeCells (Value.int .u8 0).cells (4 * 1)) 5) = w2 := ⟨_, rfl⟩
          rw [hw2] at hmk b2 ho2
          clear hw2
          obtain ⟨a6, c6, hs6, hS6⟩ := slice_mid21 (P := Tryz.prog) (ea := u8c) Tryz.underlying22 size_u8 a 6 cap 3 6 hcap (by omega) (by omega)
          have hr6 : ∀ W, (Instr.slice 22 (.slice a 6 cap) (some (.int .i64 3)) (some (.int .i64 6)) none).run Tryz.prog W = .ok (.slice a6 3 c6) W := hs6
          have hq6 : SliceIs u8c 1 w2 (.slice a6 3 c6) ((b.take 6).drop 3) := hS6 w2 b hn (HW.out.1.below b2)
          obtain ⟨w3, hcp, ho3, x3⟩ := copy_bytes (l := List.replicate 4 (0 : UInt8)) ho2 hq6 (by simp <;> omega)
          have b3 : Below W1.heap.size W1 w3 := Ext.new b2 x3 (fun i hi _ e => by omega) b2.size
          rw [show (List.replicate 4 (0 : UInt8)).length = 4 from rfl] at hcp ho3
          clear hs6 hS6 hq6 ho2 x3 b2
          obtain ⟨l4, hl4⟩ : ∃ l4, (b.take 6).drop 3 ++ (List.replicate 4 (0 : UInt8)).drop ((b.take 6).drop 3).length = l4 := ⟨_, rfl⟩
          obtain ⟨xl, hxl⟩ : ∃ xl, ((b.take 6).drop 3).length = xl := ⟨_, rfl⟩
          rw [hl4] at ho3
          have hl44 : l4.length = 4 := by rw [← hl4]; simp only [List.length_append, List.length_drop, List.length_take, List.length_replicate]; omega
          rw [hxl] at hcp
          have hg4 := ho3.slice u8c_len
          have HB : Hid (Below w.heap.size w w3 ∧ SliceIs u8c 1 w3 (.slice a 6 cap) b) := Lib.hid ⟨HW.out.2.trans (b3.mono (by rw [HSZ.out]; exact Nat.le_refl _)), HW.out.1.below b3⟩
          have H4 := Lib.hid (And.intro hg4 (And.intro hl44 hl4))
          clear hxl hl4 hl44 hg4 ho3 b3
          go_wp2_with (with_reducible refine Lib.wpList_copy_run _ rfl _ _ _ _ rfl _ _ rfl rfl hcp ?_)
          clear hcp hmk hr6
          refine (fget_any _ l4 _ H4.out.1 (by rw [H4.out.2.1]; omega)).mono ?_
          rintro e w4 ⟨rfl, rfl⟩
          obtain ⟨N, hN⟩ : ∃ N, fourK l4 4 = N := ⟨_, rfl⟩
          have hNlt : N < 4294967296 := by rw [← hN]; exact fourK_lt l4 4
          rw [hN]
          have HNN := Lib.hid hN
          clear hN
          by_cases hbig : 65536 < N
          · have hb1 : (65536 : Int) < (N : Int) := by omega
            go_wp2_with (go_at_call 162; refine (take_none _ _).mono ?_; rintro e w9 ⟨rfl, rfl⟩)
            (try simp only [Exit.inBlock, Exit.then])
            refine bodyPost_ret (results_tmp4 rfl _ _ _) rfl ?_
            exact .inr ⟨HNO.out, ⟨_, by decide, rfl⟩, (by first | exact HB.out.1 | exact HB.out)⟩
          · have hb1 : ¬ (65536 : Int) < (N : Int) := by omega
            go_wp2_with (go_at_call 162; refine (take_none _ _).mono ?_; rintro e w9 ⟨rfl, rfl⟩)
            (try simp only [Exit.inBlock, Exit.then])
            refine bodyPost_ret (results_tmp4 rfl _ _ _) rfl ?_
            exact .inr ⟨HNO.out, ⟨_, by decide, rfl⟩, (by first | exact HB.out.1 | exact HB.out)⟩
        · skip
          clear hmk3
          obtain ⟨a3, hs3, hS3⟩ := slice_to21 (P := Tryz.prog) (ea := u8c) Tryz.underlying22 size_u8 a 7 cap 2 hcap (by omega)
          have hr3 : ∀ W, (Instr.slice 22 (.slice a 7 cap) none (some (.int .i64 2)) none).run Tryz.prog W = .ok (.slice a3 2 cap) W := hs3
          have hm3 := mark_slice.2.2
          have hq3 := hS3 w b hn HH.out
          clear hs3 hS3
          have hmin2 : min (7 : Int) 2 = 2 := by omega
          have hmin3 : min (7 : Int) 3 = 3 := by omega
          have hmin7 : min (7 : Int) 7 = 7 := by omega
          go_enter Tryz.func111, Tryz.ntmps111
          go_upto_region 3 with fail
          refine wp_region_s (fun W : World => SliceIs u8c 1 W (.slice a3 2 cap) (b.take 2)) (fun _ => false) (by kernel_rfl) ?_
          have hS0 : (fun W : World => SliceIs u8c 1 W (.slice a3 2 cap) (b.take 2)) w.drew := hq3.below (Below.refl _ _).drew
          have HW : Hid (SliceIs u8c 1 w.drew (.slice a 7 cap) b ∧ Below w.heap.size w w.drew) := Lib.hid ⟨HH.out.below (Below.refl _ _).drew, (Below.refl _ _).drew⟩
          clear hq3
          have hsz : w.drew.heap.size = w.heap.size := rfl
          generalize w.drew = W1 at hS0 HW hsz ⊢
          have HSZ := Lib.hid hsz
          clear hsz
          refine wpAnyS_take (i := 0) (d := some 14) rfl rfl rfl (by kernel_rfl) (by kernel_rfl) (by kernel_rfl) (by kernel_rfl) (fun _ _ _ h => h) (.inl ⟨by rfl, fun W hW => by go_simp; try rfl⟩) hS0 ?_
          try simp only [Act.put, List.setIfInBounds_toArray, List.set_cons_zero, List.set_cons_succ]
          refine wpAnyS_take (i := 1) (d := some 15) rfl rfl rfl (by kernel_rfl) (by kernel_rfl) (by kernel_rfl) (by kernel_rfl) (fun _ _ _ h => h) (.inl ⟨by rfl, fun W hW => by go_simp; try rfl⟩) hS0 ?_
          try simp only [Act.put, List.setIfInBounds_toArray, List.set_cons_zero, List.set_cons_succ]
          refine wpAnyS_take (i := 2) (d := some 16) (v := .slice a3 2 cap) rfl rfl rfl (by kernel_rfl) (by kernel_rfl) (by kernel_rfl) (by kernel_rfl) (fun _ _ _ h => h) (.inl ⟨by rfl, fun W hW => by go_simp; try rfl⟩) hS0 ?_
          try simp only [Act.put, List.setIfInBounds_toArray, List.set_cons_zero, List.set_cons_succ]
          refine wpAnyS_take (i := 3) (d := some 17) (v := .string ⟨(b.take 2).toArray⟩) rfl rfl rfl (by kernel_rfl) (by kernel_rfl) (by kernel_rfl) (by kernel_rfl) (fun _ _ _ h => h) (.inl ⟨by rfl, fun W hW => by have q3 := conv_bytes hW; go_simp; try rfl⟩) hS0 ?_
          try simp only [Act.put, List.setIfInBounds_toArray, List.set_cons_zero, List.set_cons_succ]
          refine wpAnyS_take (i := 4) (d := some 18) rfl rfl rfl (by kernel_rfl) (by kernel_rfl) (by kernel_rfl) (by kernel_rfl) (fun _ _ _ h => h) (.inl ⟨by rfl, fun W hW => by go_simp; try rfl⟩) hS0 ?_
          try simp only [Act.put, List.setIfInBounds_toArray, List.set_cons_zero, List.set_cons_succ]
          refine wpAnyS_take (i := 5) (d := some 19) (v := .string ⟨([83, 84] : List UInt8).toArray⟩) rfl rfl rfl (by kernel_rfl) (by kernel_rfl) (by kernel_rfl) (by kernel_rfl) (fun _ _ _ h => h) (.inl ⟨by rfl, fun W hW => by go_simp; try rfl⟩) hS0 ?_
          try simp only [Act.put, List.setIfInBounds_toArray, List.set_cons_zero, List.set_cons_succ]
          refine wpAnyS_take (i := 6) (d := some 20) (v := .bool false) rfl rfl rfl (by kernel_rfl) (by kernel_rfl) (by kernel_rfl) (by kernel_rfl) (fun _ _ _ h => h) (.inl ⟨by rfl, fun W hW => by have q4 := HEQ.out; go_simp; try rfl⟩) hS0 ?_
          try simp only [Act.put, List.setIfInBounds_toArray, List.set_cons_zero, List.set_cons_succ]
          refine wpAnyS_done (by kernel_rfl) ?_ _
          clear hS0 hr3 hm3
          obtain ⟨i0, hi, hy0, hy1, hy2⟩ := info_parts info_u8
          have hmk : (Instr.makeSlice 22 (.int .i64 4) (.int .i64 4)).run Tryz.prog W1 = .ok (.slice (some ⟨W1.heap.size, 0, none⟩) 4 4) (W1.alloc (.cells (madeCells (Value.int .u8 0).cells (4 * 1)) 5)) := by
            have h := run_make (P := Tryz.prog) W1 22 5 i0 _ Tryz.underlying22 hi hy0 .i64 .i64 4 4 (by omega) (by omega) (by rw [hy2]; omega) (by omega)
            rw [hy1] at h
            exact h
          clear hi hy0 hy1 hy2
          have b2 : Below W1.heap.size W1 (W1.alloc (.cells (madeCells (Value.int .u8 0).cells (4 * 1)) 5)) := (Below.refl _ _).alloc (Nat.le_refl _) _
          have ho2 := own_zero (base := W1.heap.size) (n := 4) (cap := 4) (W := W1) (Nat.le_refl _) (by omega) (by omega)
          obtain ⟨w2, hw2⟩ : ∃ w2, W1.alloc (.cells (madeCells (Value.int .u8 0).cells (4 * 1)) 5) = w2 := ⟨_, rfl⟩
          rw [hw2] at hmk b2 ho2
          clear hw2
          obtain ⟨a6, c6, hs6, hS6⟩ := slice_mid21 (P := Tryz.prog) (ea := u8c) Tryz.underlying22 size_u8 a 7 cap 3 7 hcap (by omega) (by omega)
          have hr6 : ∀ W, (Instr.slice 22 (.slice a 7 cap) (some (.int .i64 3)) (some (.int .i64 7)) none).run Tryz.prog W = .ok (.slice a6 4 c6) W := hs6
          have hq6 : SliceIs u8c 1 w2 (.slice a6 4 c6) ((b.take 7).drop 3) := hS6 w2 b hn (HW.out.1.below b2)
          obtain ⟨w3, hcp, ho3, x3⟩ := copy_bytes (l := List.replicate 4 (0 : UInt8)) ho2 hq6 (by simp <;> omega)
          have b3 : Below W1.heap.size W1 w3 := Ext.new b2 x3 (fun i hi _ e => by omega) b2.size
          rw [show (List.replicate 4 (0 : UInt8)).length = 4 from rfl] at hcp ho3
          clear hs6 hS6 hq6 ho2 x3 b2
          obtain ⟨l4, hl4⟩ : ∃ l4, (b.take 7).drop 3 ++ (List.replicate 4 (0 : UInt8)).drop ((b.take 7).drop 3).length = l4 := ⟨_, rfl⟩
          obtain ⟨xl, hxl⟩ : ∃ xl, ((b.take 7).drop 3).length = xl := ⟨_, rfl⟩
          rw [hl4] at ho3
          have hl44 : l4.length = 4 := by rw [← hl4]; simp only [List.length_append, List.length_drop, List.length_take, List.length_replicate]; omega
          rw [hxl] at hcp
          have hg4 := ho3.slice u8c_len
          have HB : Hid (Below w.heap.size w w3 ∧ SliceIs u8c 1 w3 (.slice a 7 cap) b) := Lib.hid ⟨HW.out.2.trans (b3.mono (by rw [HSZ.out]; exact Nat.le_refl _)), HW.out.1.below b3⟩
          have H4 := Lib.hid (And.intro hg4 (And.intro hl44 hl4))
          clear hxl hl4 hl44 hg4 ho3 b3
          go_wp2_with (with_reducible refine Lib.wpList_copy_run _ rfl _ _ _ _ rfl _ _ rfl rfl hcp ?_)
          clear hcp hmk hr6
          refine (fget_any _ l4 _ H4.out.1 (by rw [H4.out.2.1]; omega)).mono ?_
          rintro e w4 ⟨rfl, rfl⟩
          obtain ⟨N, hN⟩ : ∃ N, fourK l4 4 = N := ⟨_, rfl⟩
          have hNlt : N < 4294967296 := by rw [← hN]; exact fourK_lt l4 4
          rw [hN]
          have HNN := Lib.hid hN
          clear hN
          by_cases hbig : 65536 < N
          · have hb1 : (65536 : Int) < (N : Int) := by omega
            go_wp2_with (go_at_call 162; refine (take_none _ _).mono ?_; rintro e w9 ⟨rfl, rfl⟩)
            (try simp only [Exit.inBlock, Exit.then])
            refine bodyPost_ret (results_tmp4 rfl _ _ _) rfl ?_
            exact .inr ⟨HNO.out, ⟨_, by decide, rfl⟩, (by first | exact HB.out.1 | exact HB.out)⟩
          · have hb1 : ¬ (65536 : Int) < (N : Int) := by omega
            have hb2 : (-4 : Int) < (N : Int) := by omega
            go_wp2_with (go_at_call 162; refine (take_none _ _).mono ?_; rintro e w9 ⟨rfl, rfl⟩)
            (try simp only [Exit.inBlock, Exit.then])
            refine bodyPost_ret (results_tmp4 rfl _ _ _) rfl ?_
            exact .inr ⟨HNO.out, ⟨_, by decide, rfl⟩, (by first | exact HB.out.1 | exact HB.out)⟩
      · skip
        have HMK := Lib.hid hmk3
        obtain ⟨a3, hs3, hS3⟩ := slice_to21 (P := Tryz.prog) (ea := u8c) Tryz.underlying22 size_u8 a n cap 2 hcap (by omega)
        have hr3 : ∀ W, (Instr.slice 22 (.slice a n cap) none (some (.int .i64 2)) none).run Tryz.prog W = .ok (.slice a3 2 cap) W := hs3
        have hm3 := mark_slice.2.2
        have hq3 := hS3 w b hn HH.out
        clear hs3 hS3
        have hmin2 : min ((n : Int) : Int) 2 = 2 := by omega
        have hmin3 : min ((n : Int) : Int) 3 = 3 := by omega
        have hmin7 : min ((n : Int) : Int) 7 = 7 := by omega
        go_enter Tryz.func111, Tryz.ntmps111
        go_upto_region 3 with fail
        refine wp_region_s (fun W : World => SliceIs u8c 1 W (.slice a3 2 cap) (b.take 2)) (fun _ => false) (by kernel_rfl) ?_
        have hS0 : (fun W : World => SliceIs u8c 1 W (.slice a3 2 cap) (b.take 2)) w.drew := hq3.below (Below.refl _ _).drew
        have HW : Hid (SliceIs u8c 1 w.drew (.slice a n cap) b ∧ Below w.heap.size w w.drew) := Lib.hid ⟨HH.out.below (Below.refl _ _).drew, (Below.refl _ _).drew⟩
        clear hq3
        have hsz : w.drew.heap.size = w.heap.size := rfl
        generalize w.drew = W1 at hS0 HW hsz ⊢
        have HSZ := Lib.hid hsz
        clear hsz
        refine wpAnyS_take (i := 0) (d := some 14) rfl rfl rfl (by kernel_rfl) (by kernel_rfl) (by kernel_rfl) (by kernel_rfl) (fun _ _ _ h => h) (.inl ⟨by rfl, fun W hW => by go_simp; try rfl⟩) hS0 ?_
        try simp only [Act.put, List.setIfInBounds_toArray, List.set_cons_zero, List.set_cons_succ]
        refine wpAnyS_take (i := 1) (d := some 15) rfl rfl rfl (by kernel_rfl) (by kernel_rfl) (by kernel_rfl) (by kernel_rfl) (fun _ _ _ h => h) (.inl ⟨by rfl, fun W hW => by go_simp; try rfl⟩) hS0 ?_
        try simp only [Act.put, List.setIfInBounds_toArray, List.set_cons_zero, List.set_cons_succ]
        refine wpAnyS_take (i := 2) (d := some 16) (v := .slice a3 2 cap) rfl rfl rfl (by kernel_rfl) (by kernel_rfl) (by kernel_rfl) (by kernel_rfl) (fun _ _ _ h => h) (.inl ⟨by rfl, fun W hW => by go_simp; try rfl⟩) hS0 ?_
        try simp only [Act.put, List.setIfInBounds_toArray, List.set_cons_zero, List.set_cons_succ]
        refine wpAnyS_take (i := 3) (d := some 17) (v := .string ⟨(b.take 2).toArray⟩) rfl rfl rfl (by kernel_rfl) (by kernel_rfl) (by kernel_rfl) (by kernel_rfl) (fun _ _ _ h => h) (.inl ⟨by rfl, fun W hW => by have q3 := conv_bytes hW; go_simp; try rfl⟩) hS0 ?_
        try simp only [Act.put, List.setIfInBounds_toArray, List.set_cons_zero, List.set_cons_succ]
        refine wpAnyS_take (i := 4) (d := some 18) rfl rfl rfl (by kernel_rfl) (by kernel_rfl) (by kernel_rfl) (by kernel_rfl) (fun _ _ _ h => h) (.inl ⟨by rfl, fun W hW => by go_simp; try rfl⟩) hS0 ?_
        try simp only [Act.put, List.setIfInBounds_toArray, List.set_cons_zero, List.set_cons_succ]
        refine wpAnyS_take (i := 5) (d := some 19) (v := .string ⟨([83, 84] : List UInt8).toArray⟩) rfl rfl rfl (by kernel_rfl) (by kernel_rfl) (by kernel_rfl) (by kernel_rfl) (fun _ _ _ h => h) (.inl ⟨by rfl, fun W hW => by go_simp; try rfl⟩) hS0 ?_
        try simp only [Act.put, List.setIfInBounds_toArray, List.set_cons_zero, List.set_cons_succ]
        refine wpAnyS_take (i := 6) (d := some 20) (v := .bool false) rfl rfl rfl (by kernel_rfl) (by kernel_rfl) (by kernel_rfl) (by kernel_rfl) (fun _ _ _ h => h) (.inl ⟨by rfl, fun W hW => by have q4 := HEQ.out; go_simp; try rfl⟩) hS0 ?_
        try simp only [Act.put, List.setIfInBounds_toArray, List.set_cons_zero, List.set_cons_succ]
        refine wpAnyS_done (by kernel_rfl) ?_ _
        clear hS0 hr3 hm3
        obtain ⟨i0, hi, hy0, hy1, hy2⟩ := info_parts info_u8
        have hmk : (Instr.makeSlice 22 (.int .i64 4) (.int .i64 4)).run Tryz.prog W1 = .ok (.slice (some ⟨W1.heap.size, 0, none⟩) 4 4) (W1.alloc (.cells (madeCells (Value.int .u8 0).cells (4 * 1)) 5)) := by
          have h := run_make (P := Tryz.prog) W1 22 5 i0 _ Tryz.underlying22 hi hy0 .i64 .i64 4 4 (by omega) (by omega) (by rw [hy2]; omega) (by omega)
          rw [hy1] at h
          exact h
        clear hi hy0 hy1 hy2
        have b2 : Below W1.heap.size W1 (W1.alloc (.cells (madeCells (Value.int .u8 0).cells (4 * 1)) 5)) := (Below.refl _ _).alloc (Nat.le_refl _) _
        have ho2 := own_zero (base := W1.heap.size) (n := 4) (cap := 4) (W := W1) (Nat.le_refl _) (by omega) (by omega)
        obtain ⟨w2, hw2⟩ : ∃ w2, W1.alloc (.cells (madeCells (Value.int .u8 0).cells (4 * 1)) 5) = w2 := ⟨_, rfl⟩
        rw [hw2] at hmk b2 ho2
        clear hw2
        obtain ⟨a6, c6, hs6, hS6⟩ := slice_mid21 (P := Tryz.prog) (ea := u8c) Tryz.underlying22 size_u8 a n cap 3 7 hcap (by omega) (by omega)
        have hr6 : ∀ W, (Instr.slice 22 (.slice a n cap) (some (.int .i64 3)) (some (.int .i64 7)) none).run Tryz.prog W = .ok (.slice a6 4 c6) W := hs6
        have hq6 : SliceIs u8c 1 w2 (.slice a6 4 c6) ((b.take 7).drop 3) := hS6 w2 b hn (HW.out.1.below b2)
        obtain ⟨w3, hcp, ho3, x3⟩ := copy_bytes (l := List.replicate 4 (0 : UInt8)) ho2 hq6 (by simp <;> omega)
        have b3 : Below W1.heap.size W1 w3 := Ext.new b2 x3 (fun i hi _ e => by omega) b2.size
        rw [show (List.replicate 4 (0 : UInt8)).length = 4 from rfl] at hcp ho3
        clear hs6 hS6 hq6 ho2 x3 b2
        obtain ⟨l4, hl4⟩ : ∃ l4, (b.take 7).drop 3 ++ (List.replicate 4 (0 : UInt8)).drop ((b.take 7).drop 3).length = l4 := ⟨_, rfl⟩
        obtain ⟨xl, hxl⟩ : ∃ xl, ((b.take 7).drop 3).length = xl := ⟨_, rfl⟩
        rw [hl4] at ho3
        have hl44 : l4.length = 4 := by rw [← hl4]; simp only [List.length_append, List.length_drop, List.length_take, List.length_replicate]; omega
        rw [hxl] at hcp
        have hg4 := ho3.slice u8c_len
        have HB : Hid (Below w.heap.size w w3 ∧ SliceIs u8c 1 w3 (.slice a n cap) b) := Lib.hid ⟨HW.out.2.trans (b3.mono (by rw [HSZ.out]; exact Nat.le_refl _)), HW.out.1.below b3⟩
        have H4 := Lib.hid (And.intro hg4 (And.intro hl44 hl4))
        clear hxl hl4 hl44 hg4 ho3 b3
        go_wp2_with (with_reducible refine Lib.wpList_copy_run _ rfl _ _ _ _ rfl _ _ rfl rfl hcp ?_)
        clear hcp hmk hr6
        refine (fget_any _ l4 _ H4.out.1 (by rw [H4.out.2.1]; omega)).mono ?_
        rintro e w4 ⟨rfl, rfl⟩
        obtain ⟨N, hN⟩ : ∃ N, fourK l4 4 = N := ⟨_, rfl⟩
        have hNlt : N < 4294967296 := by rw [← hN]; exact fourK_lt l4 4
        rw [hN]
        have HNN := Lib.hid hN
        clear hN
        have HP : Hid (fourK ((b.take 7).drop 3) 4 = N) := Lib.hid (by rw [← take_l4 (by omega) H4.out.2.2]; exact HNN.out)
        by_cases hbig : 65536 < N
        · have hb1 : (65536 : Int) < (N : Int) := by omega
          go_wp2_with (go_at_call 162; refine (take_none _ _).mono ?_; rintro e w9 ⟨rfl, rfl⟩)
          (try simp only [Exit.inBlock, Exit.then])
          refine bodyPost_ret (results_tmp4 rfl _ _ _) rfl ?_
          exact .inr ⟨takeF_no1 (by omega) HP.out (.inl hbig), ⟨_, by decide, rfl⟩, (by first | exact HB.out.1 | exact HB.out)⟩
        · have hb1 : ¬ (65536 : Int) < (N : Int) := by omega
          have hs7 : ¬ (n : Int) < 7 := by omega
          by_cases hsh : n < 11 + N
          · have hs2 : (n : Int) - 11 < (N : Int) := by omega
            go_wp2_with (go_at_call 162; refine (take_none _ _).mono ?_; rintro e w9 ⟨rfl, rfl⟩)
            (try simp only [Exit.inBlock, Exit.then])
            refine bodyPost_ret (results_tmp4 rfl _ _ _) rfl ?_
            exact .inr ⟨takeF_no1 (by omega) HP.out (.inr (by omega)), ⟨_, by decide, rfl⟩, (by first | exact HB.out.1 | exact HB.out)⟩
          · have hs2 : ¬ (n : Int) - 11 < (N : Int) := by omega
            obtain ⟨a12, hs12, hS12⟩ := slice_to21 (P := Tryz.prog) (ea := u8c) Tryz.underlying22 size_u8 a n cap (11 + N) hcap (by omega)
            have hr12 : ∀ W, (Instr.slice 22 (.slice a n cap) none (some (.int .i64 (11 + (N : Int)))) none).run Tryz.prog W = .ok (.slice a12 (11 + N) cap) W := fun W => by
              have := hs12 W
              rwa [show ((11 + N : Nat) : Int) = 11 + (N : Int) by omega] at this
            have hcap2 : 11 + N ≤ cap := by omega
            obtain ⟨a13, c13, hs13, hS13, -⟩ := slice_from (P := Tryz.prog) (ea := u8c) Tryz.underlying22 size_u8 a12 (11 + N) cap 7 hcap2 (by omega)
            have hr13 : ∀ W, (Instr.slice 22 (.slice a12 (11 + N) cap) (some (.int .i64 7)) none none).run Tryz.prog W = .ok (.slice a13 (11 + N - 7) c13) W := hs13
            obtain ⟨a15, c15, hs15, hS15, -⟩ := slice_from (P := Tryz.prog) (ea := u8c) Tryz.underlying22 size_u8 a12 (11 + N) cap 11 hcap2 (by omega)
            have hr15 : ∀ W, (Instr.slice 22 (.slice a12 (11 + N) cap) (some (.int .i64 11)) none none).run Tryz.prog W = .ok (.slice a15 (11 + N - 11) c15) W := hs15
            obtain ⟨F, hF⟩ : ∃ F, b.take (11 + N) = F := ⟨_, rfl⟩
            have hFl : F.length = 11 + N := by rw [← hF, List.length_take]; omega
            have hsum := takeF_sum (b := b) (by omega) HP.out (by omega) (by omega) HMK.out
            rw [hF] at hsum
            have hq12 := hS12 w3 b hn HB.out.2
            rw [hF] at hq12
            have H12 := Lib.hid (And.intro hq12 (And.intro (hS13 w3 F hFl hq12) (And.intro (hS15 w3 F hFl hq12) (And.intro hFl (And.intro hsum hF)))))
            clear hs12 hS12 hs13 hS13 hs15 hS15 hF hFl hsum hq12
            have hNb : N ≤ 65536 := by omega
            go_wp2_with fail
            refine (fget_any _ (F.drop 7) _ H12.out.2.1 (by rw [List.length_drop, H12.out.2.2.2.1]; omega)).mono ?_
            rintro e w4 ⟨rfl, rfl⟩
            obtain ⟨c1, hc1⟩ : ∃ c1, fourK (F.drop 7) 4 = c1 := ⟨_, rfl⟩
            rw [hc1]
            have HC1 := Lib.hid hc1
            clear hc1
            go_wp2_with fail
            refine (fsummed_any _ F _ H12.out.1 (by rw [H12.out.2.2.2.1]; omega) (by rw [H12.out.2.2.2.1]; omega)).mono ?_
            rintro e w5 ⟨v5, rfl, own5, b5⟩
            have H5 := Lib.hid (And.intro (own5.slice u8c_len) b5)
            clear own5 b5
            go_wp2_with fail
            refine (sum_any v5 _ w5 H5.out.1).mono ?_
            rintro e w6 ⟨rfl, b6⟩
            have H6 := Lib.hid (show Below w3.heap.size w3 w6 from H5.out.2.trans (b6.mono H5.out.2.size))
            clear b6
            obtain ⟨c2, hc2⟩ : ∃ c2, crcB ((F.take 7).drop 2 ++ F.drop 11) = c2 := ⟨_, rfl⟩
            rw [hc2]
            have HC2 := Lib.hid hc2
            clear hc2
            have hsm := H12.out.2.2.2.2.1
            rw [HC1.out, HC2.out] at hsm
            by_cases heq : c1 = c2
            rotate_left
            · have hne : ¬ (c1 : Int) = (c2 : Int) := by omega
              have HNO := Lib.hid (hsm.2 heq)
              have HBB : Hid (Below w.heap.size w w6) := Lib.hid (HB.out.1.trans (H6.out.mono HB.out.1.size))
              clear hsm
              go_wp2_with (go_at_call 162; refine (take_none _ _).mono ?_; rintro e w9 ⟨rfl, rfl⟩)
              (try simp only [Exit.inBlock, Exit.then])
              refine bodyPost_ret (results_tmp4 rfl _ _ _) rfl ?_
              exact .inr ⟨HNO.out, ⟨_, by decide, rfl⟩, HBB.out⟩
            · subst heq
              obtain ⟨k, hk2, htk⟩ := hsm.1 rfl
              have hkF : F[2]? = some k := by rw [← H12.out.2.2.2.2.2, List.getElem?_take_of_lt (by omega)]; exact hk2
              have hq6 := H12.out.1.below H6.out
              obtain ⟨fb, fo, rfl, ck⟩ := hq6.at1 (k := 2) hkF rfl
              have HTK := Lib.hid htk
              have HBB : Hid (Below w.heap.size w w6) := Lib.hid (HB.out.1.trans (H6.out.mono HB.out.1.size))
              have H15 := Lib.hid (And.intro (H12.out.2.2.1.below H6.out) H12.out.2.2.2.1)
              clear hsm hk2 htk hkF hq6 hr12 hr13 H12
              have h2N : (2 : Int) < 11 + (N : Int) := by omega
              go_wp2_with fail
              refine wp_region_s (fun W : World => W.cell? ⟨fb, fo + 2, none⟩ = some (.int .u8 (k.toNat : Int))) (fun _ => false) (by kernel_rfl) ?_
              have hS0 : (fun W : World => W.cell? ⟨fb, fo + 2, none⟩ = some (.int .u8 (k.toNat : Int))) w6.drew := ck
              have HBD : Hid (Below w.heap.size w w6.drew ∧ SliceIs u8c 1 w6.drew (.slice a15 (11 + N - 11) c15) (F.drop 11)) := Lib.hid ⟨HBB.out.drew, H15.out.1.below (Below.refl _ _).drew⟩
              clear ck
              generalize w6.drew = W7 at hS0 HBD ⊢
              refine wpAnyS_take (i := 0) (d := some 85) rfl rfl rfl (by kernel_rfl) (by kernel_rfl) (by kernel_rfl) (by kernel_rfl) (fun _ _ _ h => h) (.inl ⟨by rfl, fun W hW => by go_simp; try rfl⟩) hS0 ?_
              try simp only [Act.put, List.setIfInBounds_toArray, List.set_cons_zero, List.set_cons_succ]
              refine wpAnyS_take (i := 1) (d := some 86) (v := .pointer (some ⟨fb, fo + 2, none⟩)) rfl rfl rfl (by kernel_rfl) (by kernel_rfl) (by kernel_rfl) (by kernel_rfl) (fun _ _ _ h => h) (.inl ⟨by rfl, fun W hW => by go_simp; try rfl⟩) hS0 ?_
              try simp only [Act.put, List.setIfInBounds_toArray, List.set_cons_zero, List.set_cons_succ]
              refine wpAnyS_take (i := 2) (d := some 87) rfl rfl rfl (by kernel_rfl) (by kernel_rfl) (by kernel_rfl) (by kernel_rfl) (fun _ _ _ h => h) (.inl ⟨by rfl, fun W hW => by go_simp; try rfl⟩) hS0 ?_
              try simp only [Act.put, List.setIfInBounds_toArray, List.set_cons_zero, List.set_cons_succ]
              refine wpAnyS_take (i := 3) (d := some 88) rfl rfl rfl (by kernel_rfl) (by kernel_rfl) (by kernel_rfl) (by kernel_rfl) (fun _ _ _ h => h) (.inl ⟨by rfl, fun W hW => by go_simp; try rfl⟩) hS0 ?_
              try simp only [Act.put, List.setIfInBounds_toArray, List.set_cons_zero, List.set_cons_succ]
              refine wpAnyS_take (i := 4) (d := some 89) (v := .slice a15 (11 + N - 11) c15) rfl rfl rfl (by kernel_rfl) (by kernel_rfl) (by kernel_rfl) (by kernel_rfl) (fun _ _ _ h => h) (.inl ⟨by rfl, fun W hW => by go_simp; try rfl⟩) hS0 ?_
              try simp only [Act.put, List.setIfInBounds_toArray, List.set_cons_zero, List.set_cons_succ]
              refine wpAnyS_take (i := 6) (d := some 91) rfl rfl rfl (by kernel_rfl) (by kernel_rfl) (by kernel_rfl) (by kernel_rfl) (fun _ _ _ h => h) (.inl ⟨by rfl, fun W hW => by go_simp; try rfl⟩) hS0 ?_
              try simp only [Act.put, List.setIfInBounds_toArray, List.set_cons_zero, List.set_cons_succ]
              refine wpAnyS_take (i := 7) (d := some 92) (v := .int .i64 ((11 + N : Nat) : Int)) rfl rfl rfl (by kernel_rfl) (by kernel_rfl) (by kernel_rfl) (by kernel_rfl) (fun _ _ _ h => h) (.inl ⟨by rfl, fun W hW => by go_simp; try rfl⟩) hS0 ?_
              try simp only [Act.put, List.setIfInBounds_toArray, List.set_cons_zero, List.set_cons_succ]
              refine wpAnyS_call (i := 5) (d := some 90) (f := 71) (args := #[.slice a15 (11 + N - 11) c15]) (w' := W7) (by kernel_rfl) rfl rfl (by rfl) (by go_simp; try rfl) ?_
              refine (bclone_any HBD.out.2 (by rw [List.length_drop, H15.out.2]; omega)).mono ?_
              rintro e w8 ⟨v8, rfl, own8, b8⟩
              obtain ⟨⟨ta, tn, tc⟩, e8⟩ := own8.sl
              dsimp only at e8
              subst e8
              refine ⟨_, rfl, fun _ => keepB b8 hS0, ?_⟩
              try simp only [Act.put, List.setIfInBounds_toArray, List.set_cons_zero, List.set_cons_succ]
              have hS8 : (fun W : World => W.cell? ⟨fb, fo + 2, none⟩ = some (.int .u8 (k.toNat : Int))) w8 := keepB b8 hS0
              refine wpAnyS_take (i := 8) (d := some 2) rfl rfl rfl (by kernel_rfl) (by kernel_rfl) (by kernel_rfl) (by kernel_rfl) (fun _ _ _ h => h) (.inl ⟨by rfl, fun W hW => by go_simp; try rfl⟩) hS8 ?_
              try simp only [Act.put, List.setIfInBounds_toArray, List.set_cons_zero, List.set_cons_succ]
              refine wpAnyS_take (i := 9) (d := some 3) rfl rfl rfl (by kernel_rfl) (by kernel_rfl) (by kernel_rfl) (by kernel_rfl) (fun _ _ _ h => h) (.inl ⟨by rfl, fun W hW => by go_simp; try rfl⟩) hS8 ?_
              try simp only [Act.put, List.setIfInBounds_toArray, List.set_cons_zero, List.set_cons_succ]
              refine wpAnyS_take (i := 10) (d := some 4) rfl rfl rfl (by kernel_rfl) (by kernel_rfl) (by kernel_rfl) (by kernel_rfl) (fun _ _ _ h => h) (.inl ⟨by rfl, fun W hW => by go_simp; try rfl⟩) hS8 ?_
              try simp only [Act.put, List.setIfInBounds_toArray, List.set_cons_zero, List.set_cons_succ]
              refine wpAnyS_take (i := 11) (d := some 5) rfl rfl rfl (by kernel_rfl) (by kernel_rfl) (by kernel_rfl) (by kernel_rfl) (fun _ _ _ h => h) (.inl ⟨by rfl, fun W hW => by go_simp; try rfl⟩) hS8 ?_
              try simp only [Act.put, List.setIfInBounds_toArray, List.set_cons_zero, List.set_cons_succ]
              refine wpAnyS_done (by kernel_rfl) ?_ _
              have HFIN := Lib.hid (And.intro (own8.mono HBD.out.1.size) (HBD.out.1.trans (b8.mono HBD.out.1.size)))
              clear own8 b8 hS8 hS0 hr15
              go_wp2_with fail
              (try simp only [Exit.inBlock, Exit.then])
              refine bodyPost_ret (results_tmp4 rfl _ _ _) rfl ?_
              refine .inl ⟨k, F.drop 11, _, HTK.out, ?_, HFIN.out.1, HFIN.out.2⟩
              have e11 : 11 + (F.drop 11).length = 11 + N := by rw [List.length_drop, H15.out.2]; omega
              rw [e11]
              rfl
    · have HNE := Lib.hid hmk2
      have HNO : Hid (takeF b = none) := Lib.hid (Classical.byContradiction fun h => hmk2 (takeF_mark h))
      clear hmk2
      rcases (by omega : n = 2 ∨ 2 < n) with rfl | h2n
      · skip
        obtain ⟨a3, hs3, hS3⟩ := slice_to21 (P := Tryz.prog) (ea := u8c) Tryz.underlying22 size_u8 a 2 cap 2 hcap (by omega)
        have hr3 : ∀ W, (Instr.slice 22 (.slice a 2 cap) none (some (.int .i64 2)) none).run Tryz.prog W = .ok (.slice a3 2 cap) W := hs3
        have hm3 := mark_slice.2.2
        have hq3 := hS3 w b hn HH.out
        clear hs3 hS3
        have hmin2 : min (2 : Int) 2 = 2 := by omega
        have hmin3 : min (2 : Int) 3 = 2 := by omega
        have hmin7 : min (2 : Int) 7 = 2 := by omega
        go_enter Tryz.func111, Tryz.ntmps111
        go_upto_region 3 with fail
        refine wp_region_s (fun W : World => SliceIs u8c 1 W (.slice a3 2 cap) (b.take 2)) (fun _ => false) (by kernel_rfl) ?_
        have hS0 : (fun W : World => SliceIs u8c 1 W (.slice a3 2 cap) (b.take 2)) w.drew := hq3.below (Below.refl _ _).drew
        have HW : Hid (SliceIs u8c 1 w.drew (.slice a 2 cap) b ∧ Below w.heap.size w w.drew) := Lib.hid ⟨HH.out.below (Below.refl _ _).drew, (Below.refl _ _).drew⟩
        clear hq3
        have hsz : w.drew.heap.size = w.heap.size := rfl
        generalize w.drew = W1 at hS0 HW hsz ⊢
        have HSZ := Lib.hid hsz
        clear hsz
        refine wpAnyS_take (i := 0) (d := some 14) rfl rfl rfl (by kernel_rfl) (by kernel_rfl) (by kernel_rfl) (by kernel_rfl) (fun _ _ _ h => h) (.inl ⟨by rfl, fun W hW => by go_simp; try rfl⟩) hS0 ?_
        try simp only [Act.put, List.setIfInBounds_toArray, List.set_cons_zero, List.set_cons_succ]
        refine wpAnyS_take (i := 1) (d := some 15) rfl rfl rfl (by kernel_rfl) (by kernel_rfl) (by kernel_rfl) (by kernel_rfl) (fun _ _ _ h => h) (.inl ⟨by rfl, fun W hW => by go_simp; try rfl⟩) hS0 ?_
        try simp only [Act.put, List.setIfInBounds_toArray, List.set_cons_zero, List.set_cons_succ]
        refine wpAnyS_take (i := 2) (d := some 16) (v := .slice a3 2 cap) rfl rfl rfl (by kernel_rfl) (by kernel_rfl) (by kernel_rfl) (by kernel_rfl) (fun _ _ _ h => h) (.inl ⟨by rfl, fun W hW => by go_simp; try rfl⟩) hS0 ?_
        try simp only [Act.put, List.setIfInBounds_toArray, List.set_cons_zero, List.set_cons_succ]
        refine wpAnyS_take (i := 3) (d := some 17) (v := .string ⟨(b.take 2).toArray⟩) rfl rfl rfl (by kernel_rfl) (by kernel_rfl) (by kernel_rfl) (by kernel_rfl) (fun _ _ _ h => h) (.inl ⟨by rfl, fun W hW => by have q3 := conv_bytes hW; go_simp; try rfl⟩) hS0 ?_
        try simp only [Act.put, List.setIfInBounds_toArray, List.set_cons_zero, List.set_cons_succ]
        refine wpAnyS_take (i := 4) (d := some 18) rfl rfl rfl (by kernel_rfl) (by kernel_rfl) (by kernel_rfl) (by kernel_rfl) (fun _ _ _ h => h) (.inl ⟨by rfl, fun W hW => by go_simp; try rfl⟩) hS0 ?_
        try simp only [Act.put, List.setIfInBounds_toArray, List.set_cons_zero, List.set_cons_succ]
        refine wpAnyS_take (i := 5) (d := some 19) (v := .string ⟨([83, 84] : List UInt8).toArray⟩) rfl rfl rfl (by kernel_rfl) (by kernel_rfl) (by kernel_rfl) (by kernel_rfl) (fun _ _ _ h => h) (.inl ⟨by rfl, fun W hW => by go_simp; try rfl⟩) hS0 ?_
        try simp only [Act.put, List.setIfInBounds_toArray, List.set_cons_zero, List.set_cons_succ]
        refine wpAnyS_take (i := 6) (d := some 20) (v := .bool true) rfl rfl rfl (by kernel_rfl) (by kernel_rfl) (by kernel_rfl) (by kernel_rfl) (fun _ _ _ h => h) (.inl ⟨by rfl, fun W hW => by have q4 := HNE.out; go_simp; try rfl⟩) hS0 ?_
        try simp only [Act.put, List.setIfInBounds_toArray, List.set_cons_zero, List.set_cons_succ]
        refine wpAnyS_done (by kernel_rfl) ?_ _
        clear hS0 hr3 hm3
        have HB : Hid (Below w.heap.size w W1) := Lib.hid HW.out.2
        go_wp2_with (go_at_call 162; refine (take_none _ _).mono ?_; rintro e w9 ⟨rfl, rfl⟩)
        (try simp only [Exit.inBlock, Exit.then])
        refine bodyPost_ret (results_tmp4 rfl _ _ _) rfl ?_
        exact .inr ⟨HNO.out, ⟨_, by decide, rfl⟩, (by first | exact HB.out.1 | exact HB.out)⟩
      · skip
        obtain ⟨a3, hs3, hS3⟩ := slice_to21 (P := Tryz.prog) (ea := u8c) Tryz.underlying22 size_u8 a n cap 2 hcap (by omega)
        have hr3 : ∀ W, (Instr.slice 22 (.slice a n cap) none (some (.int .i64 2)) none).run Tryz.prog W = .ok (.slice a3 2 cap) W := hs3
        have hm3 := mark_slice.2.2
        have hq3 := hS3 w b hn HH.out
        clear hs3 hS3
        have hmin2 : min ((n : Int) : Int) 2 = 2 := by omega
        go_enter Tryz.func111, Tryz.ntmps111
        go_upto_region 3 with fail
        refine wp_region_s (fun W : World => SliceIs u8c 1 W (.slice a3 2 cap) (b.take 2)) (fun _ => false) (by kernel_rfl) ?_
        have hS0 : (fun W : World => SliceIs u8c 1 W (.slice a3 2 cap) (b.take 2)) w.drew := hq3.below (Below.refl _ _).drew
        have HW : Hid (SliceIs u8c 1 w.drew (.slice a n cap) b ∧ Below w.heap.size w w.drew) := Lib.hid ⟨HH.out.below (Below.refl _ _).drew, (Below.refl _ _).drew⟩
        clear hq3
        have hsz : w.drew.heap.size = w.heap.size := rfl
        generalize w.drew = W1 at hS0 HW hsz ⊢
        have HSZ := Lib.hid hsz
        clear hsz
        refine wpAnyS_take (i := 0) (d := some 14) rfl rfl rfl (by kernel_rfl) (by kernel_rfl) (by kernel_rfl) (by kernel_rfl) (fun _ _ _ h => h) (.inl ⟨by rfl, fun W hW => by go_simp; try rfl⟩) hS0 ?_
        try simp only [Act.put, List.setIfInBounds_toArray, List.set_cons_zero, List.set_cons_succ]
        refine wpAnyS_take (i := 1) (d := some 15) rfl rfl rfl (by kernel_rfl) (by kernel_rfl) (by kernel_rfl) (by kernel_rfl) (fun _ _ _ h => h) (.inl ⟨by rfl, fun W hW => by go_simp; try rfl⟩) hS0 ?_
        try simp only [Act.put, List.setIfInBounds_toArray, List.set_cons_zero, List.set_cons_succ]
        refine wpAnyS_take (i := 2) (d := some 16) (v := .slice a3 2 cap) rfl rfl rfl (by kernel_rfl) (by kernel_rfl) (by kernel_rfl) (by kernel_rfl) (fun _ _ _ h => h) (.inl ⟨by rfl, fun W hW => by go_simp; try rfl⟩) hS0 ?_
        try simp only [Act.put, List.setIfInBounds_toArray, List.set_cons_zero, List.set_cons_succ]
        refine wpAnyS_take (i := 3) (d := some 17) (v := .string ⟨(b.take 2).toArray⟩) rfl rfl rfl (by kernel_rfl) (by kernel_rfl) (by kernel_rfl) (by kernel_rfl) (fun _ _ _ h => h) (.inl ⟨by rfl, fun W hW => by have q3 := conv_bytes hW; go_simp; try rfl⟩) hS0 ?_
        try simp only [Act.put, List.setIfInBounds_toArray, List.set_cons_zero, List.set_cons_succ]
        refine wpAnyS_take (i := 4) (d := some 18) rfl rfl rfl (by kernel_rfl) (by kernel_rfl) (by kernel_rfl) (by kernel_rfl) (fun _ _ _ h => h) (.inl ⟨by rfl, fun W hW => by go_simp; try rfl⟩) hS0 ?_
        try simp only [Act.put, List.setIfInBounds_toArray, List.set_cons_zero, List.set_cons_succ]
        refine wpAnyS_take (i := 5) (d := some 19) (v := .string ⟨([83, 84] : List UInt8).toArray⟩) rfl rfl rfl (by kernel_rfl) (by kernel_rfl) (by kernel_rfl) (by kernel_rfl) (fun _ _ _ h => h) (.inl ⟨by rfl, fun W hW => by go_simp; try rfl⟩) hS0 ?_
        try simp only [Act.put, List.setIfInBounds_toArray, List.set_cons_zero, List.set_cons_succ]
        refine wpAnyS_take (i := 6) (d := some 20) (v := .bool true) rfl rfl rfl (by kernel_rfl) (by kernel_rfl) (by kernel_rfl) (by kernel_rfl) (fun _ _ _ h => h) (.inl ⟨by rfl, fun W hW => by have q4 := HNE.out; go_simp; try rfl⟩) hS0 ?_
        try simp only [Act.put, List.setIfInBounds_toArray, List.set_cons_zero, List.set_cons_succ]
        refine wpAnyS_done (by kernel_rfl) ?_ _
        clear hS0 hr3 hm3
        have HB : Hid (Below w.heap.size w W1) := Lib.hid HW.out.2
        go_wp2_with (go_at_call 162; refine (take_none _ _).mono ?_; rintro e w9 ⟨rfl, rfl⟩)
        (try simp only [Exit.inBlock, Exit.then])
        refine bodyPost_ret (results_tmp4 rfl _ _ _) rfl ?_
        exact .inr ⟨HNO.out, ⟨_, by decide, rfl⟩, (by first | exact HB.out.1 | exact HB.out)⟩
  · have HNO := Lib.hid (takeF_short (b := b) (by omega))
    rcases (by omega : n = 0 ∨ n = 1) with rfl | rfl
    · have hm0 : b.take 0 = [] := rfl
      have HEQ : Hid ((⟨(b.take 0).toArray⟩ : ByteArray) = ⟨([] : List UInt8).toArray⟩) := Lib.hid rfl
      obtain ⟨a3, hs3, hS3⟩ := slice_to21 (P := Tryz.prog) (ea := u8c) Tryz.underlying22 size_u8 a 0 cap 0 hcap (by omega)
      have hr3 : ∀ W, (Instr.slice 22 (.slice a 0 cap) none (some (.int .i64 0)) none).run Tryz.prog W = .ok (.slice a3 0 cap) W := hs3
      have hm3 := mark_slice.1
      have hq3 := hS3 w b hn HH.out
      clear hs3 hS3
      have hmin2 : min (0 : Int) 2 = 0 := by omega
      have hmin3 : min (0 : Int) 3 = 0 := by omega
      have hmin7 : min (0 : Int) 7 = 0 := by omega
      go_enter Tryz.func111, Tryz.ntmps111
      go_upto_region 3 with fail
      refine wp_region_s (fun W : World => SliceIs u8c 1 W (.slice a3 0 cap) (b.take 0)) (fun _ => false) (by kernel_rfl) ?_
      have hS0 : (fun W : World => SliceIs u8c 1 W (.slice a3 0 cap) (b.take 0)) w.drew := hq3.below (Below.refl _ _).drew
      have HW : Hid (SliceIs u8c 1 w.drew (.slice a 0 cap) b ∧ Below w.heap.size w w.drew) := Lib.hid ⟨HH.out.below (Below.refl _ _).drew, (Below.refl _ _).drew⟩
      clear hq3
      have hsz : w.drew.heap.size = w.heap.size := rfl
      generalize w.drew = W1 at hS0 HW hsz ⊢
      have HSZ := Lib.hid hsz
      clear hsz
      refine wpAnyS_take (i := 0) (d := some 14) rfl rfl rfl (by kernel_rfl) (by kernel_rfl) (by kernel_rfl) (by kernel_rfl) (fun _ _ _ h => h) (.inl ⟨by rfl, fun W hW => by go_simp; try rfl⟩) hS0 ?_
      try simp only [Act.put, List.setIfInBounds_toArray, List.set_cons_zero, List.set_cons_succ]
      refine wpAnyS_take (i := 1) (d := some 15) rfl rfl rfl (by kernel_rfl) (by kernel_rfl) (by kernel_rfl) (by kernel_rfl) (fun _ _ _ h => h) (.inl ⟨by rfl, fun W hW => by go_simp; try rfl⟩) hS0 ?_
      try simp only [Act.put, List.setIfInBounds_toArray, List.set_cons_zero, List.set_cons_succ]
      refine wpAnyS_take (i := 2) (d := some 16) (v := .slice a3 0 cap) rfl rfl rfl (by kernel_rfl) (by kernel_rfl) (by kernel_rfl) (by kernel_rfl) (fun _ _ _ h => h) (.inl ⟨by rfl, fun W hW => by go_simp; try rfl⟩) hS0 ?_
      try simp only [Act.put, List.setIfInBounds_toArray, List.set_cons_zero, List.set_cons_succ]
      refine wpAnyS_take (i := 3) (d := some 17) (v := .string ⟨(b.take 0).toArray⟩) rfl rfl rfl (by kernel_rfl) (by kernel_rfl) (by kernel_rfl) (by kernel_rfl) (fun _ _ _ h => h) (.inl ⟨by rfl, fun W hW => by have q3 := conv_bytes hW; go_simp; try rfl⟩) hS0 ?_
      try simp only [Act.put, List.setIfInBounds_toArray, List.set_cons_zero, List.set_cons_succ]
      refine wpAnyS_take (i := 4) (d := some 18) rfl rfl rfl (by kernel_rfl) (by kernel_rfl) (by kernel_rfl) (by kernel_rfl) (fun _ _ _ h => h) (.inl ⟨by rfl, fun W hW => by go_simp; try rfl⟩) hS0 ?_
      try simp only [Act.put, List.setIfInBounds_toArray, List.set_cons_zero, List.set_cons_succ]
      refine wpAnyS_take (i := 5) (d := some 19) (v := .string ⟨([] : List UInt8).toArray⟩) rfl rfl rfl (by kernel_rfl) (by kernel_rfl) (by kernel_rfl) (by kernel_rfl) (fun _ _ _ h => h) (.inl ⟨by rfl, fun W hW => by go_simp; try rfl⟩) hS0 ?_
      try simp only [Act.put, List.setIfInBounds_toArray, List.set_cons_zero, List.set_cons_succ]
      refine wpAnyS_take (i := 6) (d := some 20) (v := .bool false) rfl rfl rfl (by kernel_rfl) (by kernel_rfl) (by kernel_rfl) (by kernel_rfl) (fun _ _ _ h => h) (.inl ⟨by rfl, fun W hW => by have q4 := HEQ.out; go_simp; try rfl⟩) hS0 ?_
      try simp only [Act.put, List.setIfInBounds_toArray, List.set_cons_zero, List.set_cons_succ]
      refine wpAnyS_done (by kernel_rfl) ?_ _
      clear hS0 hr3 hm3
      obtain ⟨i0, hi, hy0, hy1, hy2⟩ := info_parts info_u8
      have hmk : (Instr.makeSlice 22 (.int .i64 4) (.int .i64 4)).run Tryz.prog W1 = .ok (.slice (some ⟨W1.heap.size, 0, none⟩) 4 4) (W1.alloc (.cells (madeCells (Value.int .u8 0).cells (4 * 1)) 5)) := by
        have h := run_make (P := Tryz.prog) W1 22 5 i0 _ Tryz.underlying22 hi hy0 .i64 .i64 4 4 (by omega) (by omega) (by rw [hy2]; omega) (by omega)
        rw [hy1] at h
        exact h
      clear hi hy0 hy1 hy2
      have b2 : Below W1.heap.size W1 (W1.alloc (.cells (madeCells (Value.int .u8 0).cells (4 * 1)) 5)) := (Below.refl _ _).alloc (Nat.le_refl _) _
      have ho2 := own_zero (base := W1.heap.size) (n := 4) (cap := 4) (W := W1) (Nat.le_refl _) (by omega) (by omega)
      obtain ⟨w2, hw2⟩ : ∃ w2, W1.alloc (.cells (madeCells (Value.int .u8 0).cells (4 * 1)) 5) = w2 := ⟨_, rfl⟩
      rw [hw2] at hmk b2 ho2
      clear hw2
      obtain ⟨a6, c6, hs6, hS6⟩ := slice_mid21 (P := Tryz.prog) (ea := u8c) Tryz.underlying22 size_u8 a 0 cap 0 0 hcap (by omega) (by omega)
      have hr6 : ∀ W, (Instr.slice 22 (.slice a 0 cap) (some (.int .i64 0)) (some (.int .i64 0)) none).run Tryz.prog W = .ok (.slice a6 0 c6) W := hs6
      have hq6 : SliceIs u8c 1 w2 (.slice a6 0 c6) ((b.take 0).drop 0) := hS6 w2 b hn (HW.out.1.below b2)
      obtain ⟨w3, hcp, ho3, x3⟩ := copy_bytes (l := List.replicate 4 (0 : UInt8)) ho2 hq6 (by simp <;> omega)
      have b3 : Below W1.heap.size W1 w3 := Ext.new b2 x3 (fun i hi _ e => by omega) b2.size
      rw [show (List.replicate 4 (0 : UInt8)).length = 4 from rfl] at hcp ho3
      clear hs6 hS6 hq6 ho2 x3 b2
      obtain ⟨l4, hl4⟩ : ∃ l4, (b.take 0).drop 0 ++ (List.replicate 4 (0 : UInt8)).drop ((b.take 0).drop 0).length = l4 := ⟨_, rfl⟩
      obtain ⟨xl, hxl⟩ : ∃ xl, ((b.take 0).drop 0).length = xl := ⟨_, rfl⟩
      rw [hl4] at ho3
      have hl44 : l4.length = 4 := by rw [← hl4]; simp only [List.length_append, List.length_drop, List.length_take, List.length_replicate]; omega
      rw [hxl] at hcp
      have hg4 := ho3.slice u8c_len
      have HB : Hid (Below w.heap.size w w3 ∧ SliceIs u8c 1 w3 (.slice a 0 cap) b) := Lib.hid ⟨HW.out.2.trans (b3.mono (by rw [HSZ.out]; exact Nat.le_refl _)), HW.out.1.below b3⟩
      have H4 := Lib.hid (And.intro hg4 (And.intro hl44 hl4))
      clear hxl hl4 hl44 hg4 ho3 b3
      go_wp2_with (with_reducible refine Lib.wpList_copy_run _ rfl _ _ _ _ rfl _ _ rfl rfl hcp ?_)
      clear hcp hmk hr6
      refine (fget_any _ l4 _ H4.out.1 (by rw [H4.out.2.1]; omega)).mono ?_
      rintro e w4 ⟨rfl, rfl⟩
      obtain ⟨N, hN⟩ : ∃ N, fourK l4 4 = N := ⟨_, rfl⟩
      have hNlt : N < 4294967296 := by rw [← hN]; exact fourK_lt l4 4
      rw [hN]
      have HNN := Lib.hid hN
      clear hN
      by_cases hbig : 65536 < N
      · have hb1 : (65536 : Int) < (N : Int) := by omega
        go_wp2_with (go_at_call 162; refine (take_none _ _).mono ?_; rintro e w9 ⟨rfl, rfl⟩)
        (try simp only [Exit.inBlock, Exit.then])
        refine bodyPost_ret (results_tmp4 rfl _ _ _) rfl ?_
        exact .inr ⟨HNO.out, ⟨_, by decide, rfl⟩, (by first | exact HB.out.1 | exact HB.out)⟩
      · have hb1 : ¬ (65536 : Int) < (N : Int) := by omega
        go_wp2_with (go_at_call 162; refine (take_none _ _).mono ?_; rintro e w9 ⟨rfl, rfl⟩)
        (try simp only [Exit.inBlock, Exit.then])
        refine bodyPost_ret (results_tmp4 rfl _ _ _) rfl ?_
        exact .inr ⟨HNO.out, ⟨_, by decide, rfl⟩, (by first | exact HB.out.1 | exact HB.out)⟩
    · by_cases hm1 : b.take 1 = [83]
      · have HEQ : Hid ((⟨(b.take 1).toArray⟩ : ByteArray) = ⟨([83] : List UInt8).toArray⟩) := Lib.hid (by rw [hm1])
        obtain ⟨a3, hs3, hS3⟩ := slice_to21 (P := Tryz.prog) (ea := u8c) Tryz.underlying22 size_u8 a 1 cap 1 hcap (by omega)
        have hr3 : ∀ W, (Instr.slice 22 (.slice a 1 cap) none (some (.int .i64 1)) none).run Tryz.prog W = .ok (.slice a3 1 cap) W := hs3
        have hm3 := mark_slice.2.1
        have hq3 := hS3 w b hn HH.out
        clear hs3 hS3
        have hmin2 : min (1 : Int) 2 = 1 := by omega
        have hmin3 : min (1 : Int) 3 = 1 := by omega
        have hmin7 : min (1 : Int) 7 = 1 := by omega
        go_enter Tryz.func111, Tryz.ntmps111
        go_upto_region 3 with fail
        refine wp_region_s (fun W : World => SliceIs u8c 1 W (.slice a3 1 cap) (b.take 1)) (fun _ => false) (by kernel_rfl) ?_
        have hS0 : (fun W : World => SliceIs u8c 1 W (.slice a3 1 cap) (b.take 1)) w.drew := hq3.below (Below.refl _ _).drew
        have HW : Hid (SliceIs u8c 1 w.drew (.slice a 1 cap) b ∧ Below w.heap.size w w.drew) := Lib.hid ⟨HH.out.below (Below.refl _ _).drew, (Below.refl _ _).drew⟩
        clear hq3
        have hsz : w.drew.heap.size = w.heap.size := rfl
        generalize w.drew = W1 at hS0 HW hsz ⊢
        have HSZ := Lib.hid hsz
        clear hsz
        refine wpAnyS_take (i := 0) (d := some 14) rfl rfl rfl (by kernel_rfl) (by kernel_rfl) (by kernel_rfl) (by kernel_rfl) (fun _ _ _ h => h) (.inl ⟨by rfl, fun W hW => by go_simp; try rfl⟩) hS0 ?_
        try simp only [Act.put, List.setIfInBounds_toArray, List.set_cons_zero, List.set_cons_succ]
        refine wpAnyS_take (i := 1) (d := some 15) rfl rfl rfl (by kernel_rfl) (by kernel_rfl) (by kernel_rfl) (by kernel_rfl) (fun _ _ _ h => h) (.inl ⟨by rfl, fun W hW => by go_simp; try rfl⟩) hS0 ?_
        try simp only [Act.put, List.setIfInBounds_toArray, List.set_cons_zero, List.set_cons_succ]
        refine wpAnyS_take (i := 2) (d := some 16) (v := .slice a3 1 cap) rfl rfl rfl (by kernel_rfl) (by kernel_rfl) (by kernel_rfl) (by kernel_rfl) (fun _ _ _ h => h) (.inl ⟨by rfl, fun W hW => by go_simp; try rfl⟩) hS0 ?_
        try simp only [Act.put, List.setIfInBounds_toArray, List.set_cons_zero, List.set_cons_succ]
        refine wpAnyS_take (i := 3) (d := some 17) (v := .string ⟨(b.take 1).toArray⟩) rfl rfl rfl (by kernel_rfl) (by kernel_rfl) (by kernel_rfl) (by kernel_rfl) (fun _ _ _ h => h) (.inl ⟨by rfl, fun W hW => by have q3 := conv_bytes hW; go_simp; try rfl⟩) hS0 ?_
        try simp only [Act.put, List.setIfInBounds_toArray, List.set_cons_zero, List.set_cons_succ]
        refine wpAnyS_take (i := 4) (d := some 18) rfl rfl rfl (by kernel_rfl) (by kernel_rfl) (by kernel_rfl) (by kernel_rfl) (fun _ _ _ h => h) (.inl ⟨by rfl, fun W hW => by go_simp; try rfl⟩) hS0 ?_
        try simp only [Act.put, List.setIfInBounds_toArray, List.set_cons_zero, List.set_cons_succ]
        refine wpAnyS_take (i := 5) (d := some 19) (v := .string ⟨([83] : List UInt8).toArray⟩) rfl rfl rfl (by kernel_rfl) (by kernel_rfl) (by kernel_rfl) (by kernel_rfl) (fun _ _ _ h => h) (.inl ⟨by rfl, fun W hW => by go_simp; try rfl⟩) hS0 ?_
        try simp only [Act.put, List.setIfInBounds_toArray, List.set_cons_zero, List.set_cons_succ]
        refine wpAnyS_take (i := 6) (d := some 20) (v := .bool false) rfl rfl rfl (by kernel_rfl) (by kernel_rfl) (by kernel_rfl) (by kernel_rfl) (fun _ _ _ h => h) (.inl ⟨by rfl, fun W hW => by have q4 := HEQ.out; go_simp; try rfl⟩) hS0 ?_
        try simp only [Act.put, List.setIfInBounds_toArray, List.set_cons_zero, List.set_cons_succ]
        refine wpAnyS_done (by kernel_rfl) ?_ _
        clear hS0 hr3 hm3
        obtain ⟨i0, hi, hy0, hy1, hy2⟩ := info_parts info_u8
        have hmk : (Instr.makeSlice 22 (.int .i64 4) (.int .i64 4)).run Tryz.prog W1 = .ok (.slice (some ⟨W1.heap.size, 0, none⟩) 4 4) (W1.alloc (.cells (madeCells (Value.int .u8 0).cells (4 * 1)) 5)) := by
          have h := run_make (P := Tryz.prog) W1 22 5 i0 _ Tryz.underlying22 hi hy0 .i64 .i64 4 4 (by omega) (by omega) (by rw [hy2]; omega) (by omega)
          rw [hy1] at h
          exact h
        clear hi hy0 hy1 hy2
        have b2 : Below W1.heap.size W1 (W1.alloc (.cells (madeCells (Value.int .u8 0).cells (4 * 1)) 5)) := (Below.refl _ _).alloc (Nat.le_refl _) _
        have ho2 := own_zero (base := W1.heap.size) (n := 4) (cap := 4) (W := W1) (Nat.le_refl _) (by omega) (by omega)
        obtain ⟨w2, hw2⟩ : ∃ w2, W1.alloc (.cells (madeCells (Value.int .u8 0).cells (4 * 1)) 5) = w2 := ⟨_, rfl⟩
        rw [hw2] at hmk b2 ho2
        clear hw2
        obtain ⟨a6, c6, hs6, hS6⟩ := slice_mid21 (P := Tryz.prog) (ea := u8c) Tryz.underlying22 size_u8 a 1 cap 1 1 hcap (by omega) (by omega)
        have hr6 : ∀ W, (Instr.slice 22 (.slice a 1 cap) (some (.int .i64 1)) (some (.int .i64 1)) none).run Tryz.prog W = .ok (.slice a6 0 c6) W := hs6
        have hq6 : SliceIs u8c 1 w2 (.slice a6 0 c6) ((b.take 1).drop 1) := hS6 w2 b hn (HW.out.1.below b2)
        obtain ⟨w3, hcp, ho3, x3⟩ := copy_bytes (l := List.replicate 4 (0 : UInt8)) ho2 hq6 (by simp <;> omega)
        have b3 : Below W1.heap.size W1 w3 := Ext.new b2 x3 (fun i hi _ e => by omega) b2.size
        rw [show (List.replicate 4 (0 : UInt8)).length = 4 from rfl] at hcp ho3
        clear hs6 hS6 hq6 ho2 x3 b2
        obtain ⟨l4, hl4⟩ : ∃ l4, (b.take 1).drop 1 ++ (List.replicate 4 (0 : UInt8)).drop ((b.take 1).drop 1).length = l4 := ⟨_, rfl⟩
        obtain ⟨xl, hxl⟩ : ∃ xl, ((b.take 1).drop 1).length = xl := ⟨_, rfl⟩
        rw [hl4] at ho3
        have hl44 : l4.length = 4 := by rw [← hl4]; simp only [List.length_append, List.length_drop, List.length_take, List.length_replicate]; omega
        rw [hxl] at hcp
        have hg4 := ho3.slice u8c_len
        have HB : Hid (Below w.heap.size w w3 ∧ SliceIs u8c 1 w3 (.slice a 1 cap) b) := Lib.hid ⟨HW.out.2.trans (b3.mono (by rw [HSZ.out]; exact Nat.le_refl _)), HW.out.1.below b3⟩
        have H4 := Lib.hid (And.intro hg4 (And.intro hl44 hl4))
        clear hxl hl4 hl44 hg4 ho3 b3
        go_wp2_with (with_reducible refine Lib.wpList_copy_run _ rfl _ _ _ _ rfl _ _ rfl rfl hcp ?_)
        clear hcp hmk hr6
        refine (fget_any _ l4 _ H4.out.1 (by rw [H4.out.2.1]; omega)).mono ?_
        rintro e w4 ⟨rfl, rfl⟩
        obtain ⟨N, hN⟩ : ∃ N, fourK l4 4 = N := ⟨_, rfl⟩
        have hNlt : N < 4294967296 := by rw [← hN]; exact fourK_lt l4 4
        rw [hN]
        have HNN := Lib.hid hN
        clear hN
        by_cases hbig : 65536 < N
        · have hb1 : (65536 : Int) < (N : Int) := by omega
          go_wp2_with (go_at_call 162; refine (take_none _ _).mono ?_; rintro e w9 ⟨rfl, rfl⟩)
          (try simp only [Exit.inBlock, Exit.then])
          refine bodyPost_ret (results_tmp4 rfl _ _ _) rfl ?_
          exact .inr ⟨HNO.out, ⟨_, by decide, rfl⟩, (by first | exact HB.out.1 | exact HB.out)⟩
        · have hb1 : ¬ (65536 : Int) < (N : Int) := by omega
          go_wp2_with (go_at_call 162; refine (take_none _ _).mono ?_; rintro e w9 ⟨rfl, rfl⟩)
          (try simp only [Exit.inBlock, Exit.then])
          refine bodyPost_ret (results_tmp4 rfl _ _ _) rfl ?_
          exact .inr ⟨HNO.out, ⟨_, by decide, rfl⟩, (by first | exact HB.out.1 | exact HB.out)⟩
      · have HNE := Lib.hid hm1
        obtain ⟨a3, hs3, hS3⟩ := slice_to21 (P := Tryz.prog) (ea := u8c) Tryz.underlying22 size_u8 a 1 cap 1 hcap (by omega)
        have hr3 : ∀ W, (Instr.slice 22 (.slice a 1 cap) none (some (.int .i64 1)) none).run Tryz.prog W = .ok (.slice a3 1 cap) W := hs3
        have hm3 := mark_slice.2.1
        have hq3 := hS3 w b hn HH.out
        clear hs3 hS3
        have hmin2 : min (1 : Int) 2 = 1 := by omega
        have hmin3 : min (1 : Int) 3 = 1 := by omega
        have hmin7 : min (1 : Int) 7 = 1 := by omega
        go_enter Tryz.func111, Tryz.ntmps111
        go_upto_region 3 with fail
        refine wp_region_s (fun W : World => SliceIs u8c 1 W (.slice a3 1 cap) (b.take 1)) (fun _ => false) (by kernel_rfl) ?_
        have hS0 : (fun W : World => SliceIs u8c 1 W (.slice a3 1 cap) (b.take 1)) w.drew := hq3.below (Below.refl _ _).drew
        have HW : Hid (SliceIs u8c 1 w.drew (.slice a 1 cap) b ∧ Below w.heap.size w w.drew) := Lib.hid ⟨HH.out.below (Below.refl _ _).drew, (Below.refl _ _).drew⟩
        clear hq3
        have hsz : w.drew.heap.size = w.heap.size := rfl
        generalize w.drew = W1 at hS0 HW hsz ⊢
        have HSZ := Lib.hid hsz
        clear hsz
        refine wpAnyS_take (i := 0) (d := some 14) rfl rfl rfl (by kernel_rfl) (by kernel_rfl) (by kernel_rfl) (by kernel_rfl) (fun _ _ _ h => h) (.inl ⟨by rfl, fun W hW => by go_simp; try rfl⟩) hS0 ?_
        try simp only [Act.put, List.setIfInBounds_toArray, List.set_cons_zero, List.set_cons_succ]
        refine wpAnyS_take (i := 1) (d := some 15) rfl rfl rfl (by kernel_rfl) (by kernel_rfl) (by kernel_rfl) (by kernel_rfl) (fun _ _ _ h => h) (.inl ⟨by rfl, fun W hW => by go_simp; try rfl⟩) hS0 ?_
        try simp only [Act.put, List.setIfInBounds_toArray, List.set_cons_zero, List.set_cons_succ]
        refine wpAnyS_take (i := 2) (d := some 16) (v := .slice a3 1 cap) rfl rfl rfl (by kernel_rfl) (by kernel_rfl) (by kernel_rfl) (by kernel_rfl) (fun _ _ _ h => h) (.inl ⟨by rfl, fun W hW => by go_simp; try rfl⟩) hS0 ?_
        try simp only [Act.put, List.setIfInBounds_toArray, List.set_cons_zero, List.set_cons_succ]
        refine wpAnyS_take (i := 3) (d := some 17) (v := .string ⟨(b.take 1).toArray⟩) rfl rfl rfl (by kernel_rfl) (by kernel_rfl) (by kernel_rfl) (by kernel_rfl) (fun _ _ _ h => h) (.inl ⟨by rfl, fun W hW => by have q3 := conv_bytes hW; go_simp; try rfl⟩) hS0 ?_
        try simp only [Act.put, List.setIfInBounds_toArray, List.set_cons_zero, List.set_cons_succ]
        refine wpAnyS_take (i := 4) (d := some 18) rfl rfl rfl (by kernel_rfl) (by kernel_rfl) (by kernel_rfl) (by kernel_rfl) (fun _ _ _ h => h) (.inl ⟨by rfl, fun W hW => by go_simp; try rfl⟩) hS0 ?_
        try simp only [Act.put, List.setIfInBounds_toArray, List.set_cons_zero, List.set_cons_succ]
        refine wpAnyS_take (i := 5) (d := some 19) (v := .string ⟨([83] : List UInt8).toArray⟩) rfl rfl rfl (by kernel_rfl) (by kernel_rfl) (by kernel_rfl) (by kernel_rfl) (fun _ _ _ h => h) (.inl ⟨by rfl, fun W hW => by go_simp; try rfl⟩) hS0 ?_
        try simp only [Act.put, List.setIfInBounds_toArray, List.set_cons_zero, List.set_cons_succ]
        refine wpAnyS_take (i := 6) (d := some 20) (v := .bool true) rfl rfl rfl (by kernel_rfl) (by kernel_rfl) (by kernel_rfl) (by kernel_rfl) (fun _ _ _ h => h) (.inl ⟨by rfl, fun W hW => by have q4 := HNE.out; go_simp; try rfl⟩) hS0 ?_
        try simp only [Act.put, List.setIfInBounds_toArray, List.set_cons_zero, List.set_cons_succ]
        refine wpAnyS_done (by kernel_rfl) ?_ _
        clear hS0 hr3 hm3
        have HB : Hid (Below w.heap.size w W1) := Lib.hid HW.out.2
        go_wp2_with (go_at_call 162; refine (take_none _ _).mono ?_; rintro e w9 ⟨rfl, rfl⟩)
        (try simp only [Exit.inBlock, Exit.then])
        refine bodyPost_ret (results_tmp4 rfl _ _ _) rfl ?_
        exact .inr ⟨HNO.out, ⟨_, by decide, rfl⟩, (by first | exact HB.out.1 | exact HB.out)⟩
end Go.Proofs.YtgmdimbiipemhaaGreatDoor
namespace Go.Proofs.YtgmdimbiipemhaaGreatDoor
open Go.RowKit Go.Extern.Stop Go.Stop Go.Extern
set_option linter.unusedSimpArgs false
set_option linter.unusedVariables false
def atErrG21 (what : ByteArray) (n : Int) : Value := .iface 195 (.agg #[.string what, .iface 109 (.int .i64 n)])
theorem Tryz.valueOfPG21 (t : Addr) (w : World) : (ReflectliteValue.unpack (.iface 110 (.pointer (some t)))).run Tryz.prog w
    = .ok (.agg #[.pointer (some ⟨5, 110, none⟩), .pointer (some ⟨w.heap.size, 0, none⟩), .int .u64 150]) (w.alloc (.cells #[.pointer (some t)] 110)) := by kernel_rfl
theorem Tryz.typePG21 (a : Addr) (w : World) : (ReflectliteValue.methodAny (ReflectliteValue.valueError "reflectlite.Value.Type" 0) (fun t _ _ _ => ReflectliteType.toType t) #[.agg #[.pointer (some ⟨5, 110, none⟩), .pointer (some a), .int .u64 150]]).run Tryz.prog w
    = .ok (.iface 234 (.agg #[.pointer (some ⟨5, 110, none⟩)])) w := by kernel_rfl
theorem Tryz.kindPG21 (w : World) : ((ReflectliteType.abiMethod fun t => (fun a : Nat => Value.int IntKind.u8 (a : Int)) <$> Rtype.kind t) #[.pointer (some ⟨5, 110, none⟩)]).run Tryz.prog w = .ok (.int .u8 22) w := by kernel_rfl
theorem Tryz.kindFG21 (w : World) : ((ReflectliteType.abiMethod fun t => (fun a : Nat => Value.int IntKind.u8 (a : Int)) <$> Rtype.kind t) #[.pointer (some ⟨5, 109, none⟩)]).run Tryz.prog w = .ok (.int .u8 2) w := by kernel_rfl
theorem Tryz.partsPG21 (a : Addr) (w : World) : (ReflectliteValue.parts (.agg #[.pointer (some ⟨5, 110, none⟩), .pointer (some a), .int .u64 150])).run Tryz.prog w = .ok (some (110, a, 150)) w := by kernel_rfl
theorem Tryz.isNilPG21 (a p : Addr) (W : World) (ha : W.cell? a = some (.pointer (some p))) :
    (ReflectliteValue.method (ReflectliteValue.valueError "reflectlite.Value.IsNil" 0) ReflectliteValue.isNil #[.agg #[.pointer (some ⟨5, 110, none⟩), .pointer (some a), .int .u64 150]]).run Tryz.prog W = .ok (.bool false) W := by
  rw [rlm]
  simp only [Sem.run_bind, Tryz.partsPG21, Result.andThen]
  simp [ReflectliteValue.isNil, loadVar, isAgg, underlying, Tryz.underlying110, ha, Result.andThen]
theorem Tryz.elemPG21 (w : World) : (ReflectliteType.method ReflectliteType.elem #[.agg #[.pointer (some ⟨5, 110, none⟩)]]).run Tryz.prog w = .ok (.iface 234 (.agg #[.pointer (some ⟨5, 109, none⟩)])) w := by kernel_rfl
theorem Tryz.implementsFG21 (w : World) : (ReflectliteType.relation "Implements" ReflectliteType.implements_ #[.agg #[.pointer (some ⟨5, 109, none⟩)], .iface 234 (.agg #[.pointer (some ⟨5, 94, none⟩)])]).run Tryz.prog w = .ok (.bool true) w := by kernel_rfl
theorem Tryz.typeOfAG21 (v : Value) (w : World) : (ReflectliteType.typeOf #[.iface 195 v]).run Tryz.prog w = .ok (.iface 234 (.agg #[.pointer (some ⟨5, 195, none⟩)])) w := by kernel_rfl
theorem Tryz.typeOfFG21 (v : Value) (w : World) : (ReflectliteType.typeOf #[.iface 109 v]).run Tryz.prog w = .ok (.iface 234 (.agg #[.pointer (some ⟨5, 109, none⟩)])) w := by kernel_rfl
theorem Tryz.assignableAG21 (w : World) : (ReflectliteType.relation "AssignableTo" ReflectliteType.assignableTo #[.agg #[.pointer (some ⟨5, 195, none⟩)], .iface 234 (.agg #[.pointer (some ⟨5, 109, none⟩)])]).run Tryz.prog w = .ok (.bool false) w := by kernel_rfl
theorem Tryz.assignableFG21 (w : World) : (ReflectliteType.relation "AssignableTo" ReflectliteType.assignableTo #[.agg #[.pointer (some ⟨5, 109, none⟩)], .iface 234 (.agg #[.pointer (some ⟨5, 109, none⟩)])]).run Tryz.prog w = .ok (.bool true) w := by kernel_rfl
theorem Tryz.valueOfFG21 (n : Int) (w : World) : (ReflectliteValue.unpack (.iface 109 (.int .i64 n))).run Tryz.prog w
    = .ok (.agg #[.pointer (some ⟨5, 109, none⟩), .pointer (some ⟨w.heap.size, 0, none⟩), .int .u64 130]) (w.alloc (.cells #[.int .i64 n] 109)) := by kernel_rfl
theorem Tryz.elemOfPG21 (w : World) : (Rtype.elem? 110).run Tryz.prog w = .ok (some 109) w := by kernel_rfl
theorem Tryz.mkFG21 (p : Addr) (w : World) : (ReflectliteValue.mk 109 p ReflectliteValue.flagAddr).run Tryz.prog w = .ok (.agg #[.pointer (some ⟨5, 109, none⟩), .pointer (some p), .int .u64 386]) w := by kernel_rfl
theorem Tryz.elemVG21 (a p : Addr) (W : World) (ha : W.cell? a = some (.pointer (some p))) :
    (ReflectliteValue.method (ReflectliteValue.valueError "reflectlite.Value.Elem" 0) ReflectliteValue.elem #[.agg #[.pointer (some ⟨5, 110, none⟩), .pointer (some a), .int .u64 150]]).run Tryz.prog W
      = .ok (.agg #[.pointer (some ⟨5, 109, none⟩), .pointer (some p), .int .u64 386]) W := by
  rw [rlm]
  simp only [Sem.run_bind, Tryz.partsPG21, Result.andThen]
  simp [ReflectliteValue.elem, loadVar, isAgg, underlying, Tryz.underlying110, ha, Result.andThen, Tryz.elemOfPG21, Tryz.mkFG21]
theorem Tryz.partsFaG21 (a : Addr) (w : World) : (ReflectliteValue.parts (.agg #[.pointer (some ⟨5, 109, none⟩), .pointer (some a), .int .u64 386])).run Tryz.prog w = .ok (some (109, a, 386)) w := by kernel_rfl
theorem Tryz.partsFG21 (a : Addr) (w : World) : (ReflectliteValue.parts (.agg #[.pointer (some ⟨5, 109, none⟩), .pointer (some a), .int .u64 130])).run Tryz.prog w = .ok (some (109, a, 130)) w := by kernel_rfl
theorem Tryz.directFG21 (w : World) : (Rtype.directlyAssignable 109 109).run Tryz.prog w = .ok true w := by kernel_rfl
theorem Tryz.setFG21 (ta b : Addr) (n : Int) (old : Value) (W : World) (hb : W.cell? b = some (.int .i64 n)) (ht : W.cell? ta = some old) (hf : W.frozen? ta = false) :
    (ReflectliteValue.set #[.agg #[.pointer (some ⟨5, 109, none⟩), .pointer (some ta), .int .u64 386], .agg #[.pointer (some ⟨5, 109, none⟩), .pointer (some b), .int .u64 130]]).run Tryz.prog W
      = .ok (.tuple #[]) (W.setCell ta (.int .i64 n)) := by
  rw [rls]
  simp only [Sem.run_bind, Tryz.partsFaG21, Tryz.partsFG21, Result.andThen]
  simp [ReflectliteValue.flagAddr, loadVar, isAgg, underlying, Tryz.underlying109, hb, Result.andThen, Tryz.directFG21, storeVar, Value.cells, storeCells, Addr.add]
  rw [run_store Tryz.prog W ta _ _ (by rfl)]
  simp [ht, hf]
theorem Tryz.infoAtG21 : (Tryz.prog.info? 195).map (fun i => i.methods.any fun m => m.name == "As" && m.sig == 241) = some false := by kernel_rfl
theorem Tryz.noAsG21 (v : Value) (w : World) : (Instr.typeAssert (.iface 195 v) 94 239 true).run Tryz.prog w = .ok (.tuple #[.nilIface, .bool false]) w := by
  obtain ⟨i, hi, hm⟩ : ∃ i, Tryz.prog.info? 195 = some i ∧ (i.methods.any fun m => m.name == "As" && m.sig == 241) = false := by
    have h := Tryz.infoAtG21
    cases hh : Tryz.prog.info? 195 with
    | none => rw [hh] at h; cases h
    | some i => rw [hh] at h; exact ⟨i, rfl, Option.some.inj h⟩
  obtain ⟨s, hs⟩ := missing_one _ _ _ hm
  have hz := Tryz.zeroAs w
  unfold Instr.typeAssert
  simp [run_underlying Tryz.undAs, typeInfo, hi, hs, hz, Result.andThen]
theorem Tryz.hasUnG21 (v : Value) (w : World) : (Instr.typeAssert (.iface 195 v) 94 242 true).run Tryz.prog w = .ok (.tuple #[.iface 195 v, .bool true]) w := by kernel_rfl
theorem unwrap_anyG21 (what : ByteArray) (x : Value) (w : World) : Calls Tryz.prog 252 #[.agg #[.string what, x]] w fun e w' => e = .returned x ∧ w' = w.alloc (.cells #[.string what, x] 195) := by
  go_enter Tryz.func252, Tryz.ntmps252
  go_wp2
  go_ret
  exact ⟨rfl, rfl⟩
theorem Tryz.methodUnwrapG21 (n : Nat) (h : Value) (w : World) : (Go.method (n + 1) 195 h "Unwrap").run Tryz.prog w = .ok (252, h) w := by kernel_rfl
set_option maxRecDepth 20000 in
set_option maxHeartbeats 8000000 in
theorem as_inG21 (what : ByteArray) (n : Int) (t : Addr) (A0 : Nat) (old : Value) (w : World) (hA : w.cell? ⟨A0, 0, none⟩ = some (.pointer (some t))) (ht0 : w.cell? t = some old) (hf0 : w.frozen? t = false) :
    Calls Tryz.prog 102 #[.iface 195 (.agg #[.string what, .iface 109 (.int .i64 n)]), .iface 110 (.pointer (some t)), .agg #[.pointer (some ⟨5, 110, none⟩), .pointer (some ⟨A0, 0, none⟩), .int .u64 150], .iface 234 (.agg #[.pointer (some ⟨5, 109, none⟩)])] w fun ev w' => ev = .returned (.bool true) ∧ Ext (· = t.block) w w' := by
  have h6 := @run_callFunc_extern Tryz.prog 99 _ (fun args => ReflectliteValue.unpack (args.getD 0 (.tuple #[]))) Tryz.func99 (by kernel_rfl) (by kernel_rfl) (by kernel_rfl) (by kernel_rfl)
  have h10 := @run_callFunc_extern Tryz.prog 150 _ ReflectliteType.typeOf Tryz.func150 (by kernel_rfl) (by kernel_rfl) (by kernel_rfl) (by kernel_rfl)
  have h35 := @run_callFunc_extern Tryz.prog 258 _ (ReflectliteType.relation "AssignableTo" ReflectliteType.assignableTo) Tryz.func258 (by kernel_rfl) (by kernel_rfl) (by kernel_rfl) (by kernel_rfl)
  have h11 := @run_callFunc_extern Tryz.prog 151 _ (ReflectliteValue.method (ReflectliteValue.valueError "reflectlite.Value.Elem" 0) ReflectliteValue.elem) Tryz.func151 (by kernel_rfl) (by kernel_rfl) (by kernel_rfl) (by kernel_rfl)
  have h12 := @run_callFunc_extern Tryz.prog 152 _ ReflectliteValue.set Tryz.func152 (by kernel_rfl) (by kernel_rfl) (by kernel_rfl) (by kernel_rfl)
  have mA := Tryz.methodAssignableTo
  have mU := Tryz.methodUnwrapG21
  have tA := Tryz.typeOfAG21
  have tF := Tryz.typeOfFG21
  have aA := Tryz.assignableAG21
  have aF := Tryz.assignableFG21
  have nA := Tryz.noAsG21
  have hU := Tryz.hasUnG21
  have vF := Tryz.valueOfFG21
  have hAl : A0 < w.heap.size := cell_lt hA
  have htl : t.block < w.heap.size := by
    rcases Nat.lt_or_ge t.block w.heap.size with h | h
    · exact h
    · simp [World.cell?, Array.getElem?_eq_none h] at ht0
  have el := Tryz.elemVG21 ⟨A0, 0, none⟩ t ((w.alloc (.cells #[.pointer (some ⟨5, 110, none⟩), .pointer (some ⟨A0, 0, none⟩), .int .u64 150] 177)).alloc (.cells #[.string what, .iface 109 (.int .i64 n)] 195)) (by rw [World.cell?_alloc_lt _ _ ⟨A0, 0, none⟩ (by simp; omega), World.cell?_alloc_lt _ _ ⟨A0, 0, none⟩ hAl]; exact hA)
  have st := Tryz.setFG21 t ⟨w.heap.size + 1 + 1, 0, none⟩ n old (((w.alloc (.cells #[.pointer (some ⟨5, 110, none⟩), .pointer (some ⟨A0, 0, none⟩), .int .u64 150] 177)).alloc (.cells #[.string what, .iface 109 (.int .i64 n)] 195)).alloc (.cells #[.int .i64 n] 109)) (by rw [World.cell?_alloc_at _ _ _ _ (by simp)]; rfl)
    (by rw [World.cell?_alloc_lt _ _ t (by simp; omega), World.cell?_alloc_lt _ _ t (by simp; omega), World.cell?_alloc_lt _ _ t htl]; exact ht0)
    (by rw [World.frozen?_alloc_old _ _ t (by simp; omega), World.frozen?_alloc_old _ _ t (by simp; omega), World.frozen?_alloc_old _ _ t (Nat.ne_of_lt htl)]; exact hf0)
  clear ht0 hf0 hA
  go_enter Tryz.func102, Tryz.ntmps102
  go_wp2_with fail
  refine wp_loop_rounds 2 ?_
  rw [rounds_succ]
  go_wp2_with (first | (go_at_call 252; refine (unwrap_anyG21 what (.iface 109 (.int .i64 n)) _).mono ?_; rintro e w' ⟨rfl, rfl⟩))
  rw [rounds_succ]
  go_wp2_with fail
  go_ret
  refine ⟨rfl, ?_⟩
  exact ((((Ext.refl (· = t.block) w).alloc _).alloc _).alloc _).setCell (p := t) (.inr rfl) _
set_option maxRecDepth 20000 in
set_option maxHeartbeats 8000000 in
theorem as_hitG21 (what : ByteArray) (n : Int) (t : Addr) (old : Value) (w : World) (hg : w.cell? ⟨0, 0, none⟩ = some (.iface 234 (.agg #[.pointer (some ⟨5, 94, none⟩)]))) (ht0 : w.cell? t = some old) (hf0 : w.frozen? t = false) :
    Calls Tryz.prog 52 #[atErrG21 what n, .iface 110 (.pointer (some t))] w fun ev w' => ev = .returned (.bool true) ∧ Ext (· = t.block) w w' := by
  have h6 := @run_callFunc_extern Tryz.prog 99 _ (fun args => ReflectliteValue.unpack (args.getD 0 (.tuple #[]))) Tryz.func99 (by kernel_rfl) (by kernel_rfl) (by kernel_rfl) (by kernel_rfl)
  have h7 := @run_callFunc_extern Tryz.prog 100 _ (ReflectliteValue.methodAny (ReflectliteValue.valueError "reflectlite.Value.Type" 0) (fun t _ _ _ => ReflectliteType.toType t)) Tryz.func100 (by kernel_rfl) (by kernel_rfl) (by kernel_rfl) (by kernel_rfl)
  have h8 := @run_callFunc_extern Tryz.prog 101 _ (ReflectliteValue.method (ReflectliteValue.valueError "reflectlite.Value.IsNil" 0) ReflectliteValue.isNil) Tryz.func101 (by kernel_rfl) (by kernel_rfl) (by kernel_rfl) (by kernel_rfl)
  have h27 := @run_callFunc_extern Tryz.prog 241 _ (ReflectliteType.abiMethod fun t => do pure (.int .u8 (← Rtype.kind t))) Tryz.func241 (by kernel_rfl) (by kernel_rfl) (by kernel_rfl) (by kernel_rfl)
  have h37 := @run_callFunc_extern Tryz.prog 260 _ (ReflectliteType.method ReflectliteType.elem) Tryz.func260 (by kernel_rfl) (by kernel_rfl) (by kernel_rfl) (by kernel_rfl)
  have h38 := @run_callFunc_extern Tryz.prog 261 _ (ReflectliteType.relation "Implements" ReflectliteType.implements_) Tryz.func261 (by kernel_rfl) (by kernel_rfl) (by kernel_rfl) (by kernel_rfl)
  have h10 := @run_callFunc_extern Tryz.prog 150 _ ReflectliteType.typeOf Tryz.func150 (by kernel_rfl) (by kernel_rfl) (by kernel_rfl) (by kernel_rfl)
  have h35 := @run_callFunc_extern Tryz.prog 258 _ (ReflectliteType.relation "AssignableTo" ReflectliteType.assignableTo) Tryz.func258 (by kernel_rfl) (by kernel_rfl) (by kernel_rfl) (by kernel_rfl)
  have h11 := @run_callFunc_extern Tryz.prog 151 _ (ReflectliteValue.method (ReflectliteValue.valueError "reflectlite.Value.Elem" 0) ReflectliteValue.elem) Tryz.func151 (by kernel_rfl) (by kernel_rfl) (by kernel_rfl) (by kernel_rfl)
  have h12 := @run_callFunc_extern Tryz.prog 152 _ ReflectliteValue.set Tryz.func152 (by kernel_rfl) (by kernel_rfl) (by kernel_rfl) (by kernel_rfl)
  have f6 := Tryz.valueOfPG21
  have f7 := Tryz.typePG21
  have k27 := Tryz.kindPG21
  have k25 := Tryz.kindFG21
  have e27 := Tryz.elemPG21
  have i25 := Tryz.implementsFG21
  have n8 := Tryz.isNilPG21 ⟨w.heap.size, 0, none⟩ t ((w.alloc (.cells #[.pointer (some t)] 110)).alloc (.cells #[.pointer (some ⟨5, 110, none⟩), .pointer (some ⟨w.heap.size, 0, none⟩), .int .u64 150] 177)) (by simp)
  have hlt : 0 < w.heap.size := by
    rcases Nat.eq_zero_or_pos w.heap.size with h0 | h
    · simp [World.cell?, h0] at hg
    · exact h
  have htl : t.block < w.heap.size := by
    rcases Nat.lt_or_ge t.block w.heap.size with h | h
    · exact h
    · simp [World.cell?, Array.getElem?_eq_none h] at ht0
  have hg2 : ((w.alloc (.cells #[.pointer (some t)] 110)).alloc (.cells #[.pointer (some ⟨5, 110, none⟩), .pointer (some ⟨w.heap.size, 0, none⟩), .int .u64 150] 177)).cell? ⟨0, 0, none⟩ = some (.iface 234 (.agg #[.pointer (some ⟨5, 94, none⟩)])) := by
    rw [World.cell?_alloc_lt _ _ ⟨0, 0, none⟩ (by simp), World.cell?_alloc_lt _ _ ⟨0, 0, none⟩ hlt]; exact hg
  have mK := Tryz.methodKind
  have mE := Tryz.methodElem
  have mI := Tryz.methodImplements
  have mA := Tryz.methodAssignableTo
  have mU := Tryz.methodUnwrapG21
  have tA := Tryz.typeOfAG21
  have tF := Tryz.typeOfFG21
  have aA := Tryz.assignableAG21
  have aF := Tryz.assignableFG21
  have nA := Tryz.noAsG21
  have hU := Tryz.hasUnG21
  have vF := Tryz.valueOfFG21
  unfold atErrG21
  go_enter Tryz.func52, Tryz.ntmps52
  go_wp2_with fail
  refine (as_inG21 what n t w.heap.size old _ ?_ ?_ ?_).mono ?_
  · rw [World.cell?_alloc_lt _ _ ⟨w.heap.size, 0, none⟩ (by simp)]; simp
  · rw [World.cell?_alloc_lt _ _ t (by simp; omega), World.cell?_alloc_lt _ _ t htl]; exact ht0
  · rw [World.frozen?_alloc_old _ _ t (by simp; omega), World.frozen?_alloc_old _ _ t (Nat.ne_of_lt htl)]; exact hf0
  rintro e w' ⟨rfl, hx⟩
  have HX : Hid (Ext (· = t.block) w w') := Lib.hid ((((Ext.refl (· = t.block) w).alloc _).alloc _).andThen hx (fun i hi e => e))
  clear hx
  go_wp2_with fail
  go_ret
  exact ⟨rfl, HX.out⟩
end Go.Proofs.YtgmdimbiipemhaaGreatDoor
namespace Go.Proofs.YtgmdimbiipemhaaGreatDoor
set_option linter.unusedSimpArgs false
set_option linter.unusedVariables false
noncomputable def numsR : Nat → List UInt8 → Option (List Nat)
  | 0, b => if b = [] then some [] else none
  | n + 1, b => match takeV b with
    | none => none
    | some x => if 1048576 < x then none else (numsR n (b.drop (putB x).length)).map (x :: ·)
theorem numsR_zero (b : List UInt8) : numsR 0 b = if b = [] then some [] else none := rfl
theorem numsR_none {n : Nat} {b : List UInt8} (h : takeV b = none) : numsR (n + 1) b = none := by rw [numsR, h]
theorem numsR_big {n x : Nat} {b : List UInt8} (h : takeV b = some x) (hx : 1048576 < x) : numsR (n + 1) b = none := by rw [numsR, h]; exact if_pos hx
theorem numsR_step {n x : Nat} {b : List UInt8} (h : takeV b = some x) (hx : ¬ 1048576 < x) : numsR (n + 1) b = (numsR n (b.drop (putB x).length)).map (x :: ·) := by rw [numsR, h]; exact if_neg hx
theorem numsR_iff : ∀ {n : Nat} {b : List UInt8} {vs : List Nat}, numsR n b = some vs ↔ vs.length = n ∧ (∀ x ∈ vs, x ≤ 1048576) ∧ b = vs.flatMap putB
  | 0, b, vs => by
    rw [numsR_zero]
    constructor
    · intro h
      split at h
      · rename_i e
        cases h
        exact ⟨rfl, (fun x hx => nomatch hx), e⟩
      · cases h
    · rintro ⟨h1, _, h3⟩
      obtain rfl := List.eq_nil_of_length_eq_zero h1
      exact if_pos h3
  | n + 1, b, vs => by
    cases hv : takeV b with
    | none =>
      rw [numsR_none hv]
      constructor
      · intro h; cases h
      · rintro ⟨h1, h2, h3⟩
        cases vs with
        | nil => cases h1
        | cons x vs =>
          exact absurd ⟨by have := h2 x List.mem_cons_self; omega, ⟨vs.flatMap putB, by rw [h3, List.flatMap_cons]⟩⟩ (takeV_none.1 hv x)
    | some x =>
      have hx := takeV_some.1 hv
      by_cases hb : 1048576 < x
      · rw [numsR_big hv hb]
        constructor
        · intro h; cases h
        · rintro ⟨h1, h2, h3⟩
          cases vs with
          | nil => cases h1
          | cons y vs =>
            have := putB_uniq x y b hx.2 ⟨vs.flatMap putB, by rw [h3, List.flatMap_cons]⟩
            have := h2 y List.mem_cons_self
            omega
      · rw [numsR_step hv hb]
        constructor
        · intro h
          obtain ⟨us, h1, rfl⟩ := Option.map_eq_some_iff.1 h
          obtain ⟨h2, h3, h4⟩ := numsR_iff.1 h1
          refine ⟨by rw [List.length_cons, h2], fun y hy => ?_, ?_⟩
          · rcases List.mem_cons.1 hy with rfl | hy
            · omega
            · exact h3 y hy
          · rw [List.flatMap_cons, ← h4]
            exact prefix_drop hx.2
        · rintro ⟨h1, h2, h3⟩
          cases vs with
          | nil => cases h1
          | cons y vs =>
            have e := putB_uniq x y b hx.2 ⟨vs.flatMap putB, by rw [h3, List.flatMap_cons]⟩
            subst e
            refine Option.map_eq_some_iff.2 ⟨vs, numsR_iff.2 ⟨by simpa using h1, fun z hz => h2 z (List.mem_cons_of_mem _ hz), ?_⟩, rfl⟩
            rw [h3, List.flatMap_cons, List.drop_left]
theorem nums_len : ∀ {vs : List Nat}, (∀ x ∈ vs, x ≤ 1048576) → (vs.flatMap putB).length ≤ 10 * vs.length
  | [], _ => by simp
  | x :: vs, h => by
    have h1 := nums_len (fun y hy => h y (List.mem_cons_of_mem _ hy))
    have h2 := h x List.mem_cons_self
    have h3 := (putB_len x 10 (by omega)).2 (by omega)
    rw [List.flatMap_cons, List.length_append, List.length_cons]
    omega
def zero8 : List Nat := [0, 0, 0, 0, 0, 0, 0, 0]
noncomputable def hearP (b : List UInt8) : Option (List Nat × List OpD) := match takeF b with
  | none => none
  | some (k, body) => if 11 + body.length = b.length then
      (if k = 65 then (numsR 8 body).map (fun vs => (vs, [])) else if k = 71 then (match decB body with
        | none => none
        | some l => if l = [] then none else some (zero8, l)) else none) else none
theorem hearP_none {b : List UInt8} (h : takeF b = none) : hearP b = none := by unfold hearP; rw [h]
theorem hearP_len {b body : List UInt8} {k : UInt8} (h : takeF b = some (k, body)) (hl : 11 + body.length ≠ b.length) : hearP b = none := by unfold hearP; rw [h]; exact if_neg hl
theorem hearP_ask {b body : List UInt8} (h : takeF b = some (65, body)) (hl : 11 + body.length = b.length) : hearP b = (numsR 8 body).map (fun vs => (vs, [])) := by unfold hearP; rw [h]; dsimp only; rw [if_pos hl, if_pos rfl]
theorem hearP_give {b body : List UInt8} (h : takeF b = some (71, body)) (hl : 11 + body.length = b.length) : hearP b = match decB body with
        | none => none
        | some l => if l = [] then none else some (zero8, l) := by unfold hearP; rw [h]; dsimp only; rw [if_pos hl, if_neg (by decide), if_pos rfl]
theorem hearP_kind {b body : List UInt8} {k : UInt8} (h : takeF b = some (k, body)) (h1 : k ≠ 65) (h2 : k ≠ 71) : hearP b = none := by
  unfold hearP; rw [h]; dsimp only
  rw [if_neg h1, if_neg h2]
  split <;> rfl
def askB (vs : List Nat) : List UInt8 := wrapB 65 (vs.flatMap putB)
theorem hear_ask {vs : List Nat} (h1 : vs.length = 8) (h2 : ∀ x ∈ vs, x ≤ 1048576) : hearP (askB vs) = some (vs, []) := by
  have hl := nums_len h2
  have ht : takeF (askB vs) = some (65, vs.flatMap putB) := by
    have := takeF_wrap (k := 65) (body := vs.flatMap putB) (by omega) []
    rwa [List.append_nil] at this
  rw [hearP_ask ht (by unfold askB; rw [wrapB_len]), numsR_iff.2 ⟨h1, h2, rfl⟩]
  rfl
end Go.Proofs.YtgmdimbiipemhaaGreatDoor
namespace Go.Proofs.YtgmdimbiipemhaaGreatDoor
open Go.RowKit Go.Deep
set_option linter.unusedSimpArgs false
set_option linter.unusedVariables false
def vecN (vs : List Nat) : Array Value := (vs.map fun n : Nat => Value.int .i64 (n : Int)).toArray
def vecV (vs : List Nat) : Value := .agg (vecN vs)
theorem vecN_size (vs : List Nat) : (vecN vs).size = vs.length := by simp [vecN]
theorem vecN_one (vs : List Nat) : (vecN vs).all (·.oneCell') = true := by
  rw [Array.all_eq_true_iff_forall_mem]
  intro x hx
  unfold vecN at hx
  simp only [List.mem_toArray, List.mem_map] at hx
  obtain ⟨n, _, rfl⟩ := hx
  rfl
theorem vec_size8 {vs : List Nat} (h : vs.length = 8) : (Tryz.prog.info? 32).map (·.size) = some (vecN vs).size := by
  rw [vecN_size, h]
  kernel_rfl
def VecAt (W : World) (B : Nat) (vs : List Nat) : Prop := W.heap[B]? = some (.cells (vecN vs) 32 (0, 0)) ∧ vs.length = 8
theorem VecAt.set {W : World} {B k n : Nat} {vs : List Nat} (h : VecAt W B vs) : VecAt (W.setCell ⟨B, k, none⟩ (.int .i64 (n : Int))) B (vs.set k n) := by
  refine ⟨?_, by rw [List.length_set]; exact h.2⟩
  have e : vecN (vs.set k n) = (vecN vs).setIfInBounds k (.int .i64 (n : Int)) := by
    unfold vecN
    rw [List.map_set]
    simp
  rw [e]
  exact Joins.block_setCell h.1 _
theorem VecAt.ext {S : Nat → Prop} {W W' : World} {B : Nat} {vs : List Nat} (h : VecAt W B vs) (hx : Ext S W W') (hn : ¬ S B) : VecAt W' B vs := ⟨(hx.block B (Array.getElem?_eq_some_iff.1 h.1).1 hn).trans h.1, h.2⟩
theorem VecAt.below {W W' : World} {B : Nat} {vs : List Nat} (h : VecAt W B vs) (hb : Below W.heap.size W W') : VecAt W' B vs := ⟨(hb.block B (Array.getElem?_eq_some_iff.1 h.1).1).trans h.1, h.2⟩
theorem VecAt.lt {W : World} {B : Nat} {vs : List Nat} (h : VecAt W B vs) : B < W.heap.size := (Array.getElem?_eq_some_iff.1 h.1).1
theorem VecAt.cell {W : World} {B k n : Nat} {vs : List Nat} (h : VecAt W B vs) (hk : vs[k]? = some n) : W.cell? ⟨B, k, none⟩ = some (.int .i64 (n : Int)) := by
  unfold World.cell?
  rw [h.1]
  simp [vecN, hk]
theorem VecAt.free {W : World} {B : Nat} {vs : List Nat} (h : VecAt W B vs) (k : Nat) : W.frozen? ⟨B, k, none⟩ = false := Joins.unfrozen_of_block h.1 k
theorem VecAt.row {W : World} {B : Nat} {vs us : List Nat} (h : VecAt W B vs) (hu : us.length = 8) : VecAt (W.setRow B (vecN us)) B us := ⟨setRow_heap _ _ _ _ _ _ h.1, hu⟩
theorem VecAt.new (W : World) {vs : List Nat} (h : vs.length = 8) : VecAt (W.alloc (.cells (vecN vs) 32)) W.heap.size vs := ⟨heap_new8 W _, h⟩
theorem results_cell2 {fn : Func} {p t : Tmp} {ty : TypeId} (h : fn.results = #[.cell p ty, .tmp t]) (tmps : Array Value) (P : Program) (w : World) (g : Nat) (T : TypeId) (cs : Array Value) (fr : Nat × Nat) (d : TypeDesc)
    (hp : tmps.getD p undef = .pointer (some ⟨g, 0, none⟩)) (hg : w.heap[g]? = some (.cells cs T fr))
    (hd : (match d with | .struct _ | .array _ _ => true | _ => false) = true) (hu : P.underlying ty = some d) (hi : (P.info? ty).map (·.size) = some cs.size) :
    (results fn tmps).run P w = .ok (.tuple #[.agg cs, tmps.getD t undef]) w := by
  have hp' : tmps[p]?.getD undef = .pointer (some ⟨g, 0, none⟩) := by simpa using hp
  simp [results, h, hp', asAddr, run_loadVar_row (P := P) w g T ty cs fr d hg hu (by cases d <;> first | rfl | (cases hd)) hi]
theorem results_cell3 {fn : Func} {p t u : Tmp} {ty : TypeId} (h : fn.results = #[.cell p ty, .tmp t, .tmp u]) (tmps : Array Value) (P : Program) (w : World) (g : Nat) (T : TypeId) (cs : Array Value) (fr : Nat × Nat) (d : TypeDesc)
    (hp : tmps.getD p undef = .pointer (some ⟨g, 0, none⟩)) (hg : w.heap[g]? = some (.cells cs T fr))
    (hd : (match d with | .struct _ | .array _ _ => true | _ => false) = true) (hu : P.underlying ty = some d) (hi : (P.info? ty).map (·.size) = some cs.size) :
    (results fn tmps).run P w = .ok (.tuple #[.agg cs, tmps.getD t undef, tmps.getD u undef]) w := by
  have hp' : tmps[p]?.getD undef = .pointer (some ⟨g, 0, none⟩) := by simpa using hp
  simp [results, h, hp', asAddr, run_loadVar_row (P := P) w g T ty cs fr d hg hu (by cases d <;> first | rfl | (cases hd)) hi]
theorem fill_step {vs : List Nat} {k n : Nat} (hv : vs.length = k) (hk : k < 8) : (vs ++ List.replicate (8 - k) 0).set k n = (vs ++ [n]) ++ List.replicate (8 - (k + 1)) 0 := by
  rw [List.set_append_right _ _ (by omega), hv, Nat.sub_self, show 8 - k = (8 - (k + 1)) + 1 by omega, List.replicate_succ, List.set_cons_zero, List.append_assoc]
  rfl
theorem fill_get {vs : List Nat} {k : Nat} (hv : vs.length = k) (hk : k < 8) : (vs ++ List.replicate (8 - k) 0)[k]? = some 0 := by
  rw [List.getElem?_append_right (by omega), hv, Nat.sub_self, show 8 - k = (8 - (k + 1)) + 1 by omega, List.replicate_succ]
  rfl
theorem opt_map_map {α : Type} (o : Option (List α)) (a : List α) (x : α) : (o.map (x :: ·)).map (a ++ ·) = o.map ((a ++ [x]) ++ ·) := by
  cases o <;> simp
def NumsPost (w : World) (b : List UInt8) (e : Ending) (w' : World) : Prop :=
  (∃ vs, numsR 8 b = some vs ∧ vs.length = 8 ∧ e = .returned (.tuple #[vecV vs, .nilIface]) ∧ Below w.heap.size w w') ∨
  (numsR 8 b = none ∧ (∃ s m, e = .returned (.tuple #[vecV zero8, atErrG21 s m])) ∧ Below w.heap.size w w')
set_option maxRecDepth 20000 in
set_option maxHeartbeats 4000000 in
theorem gnums_any (v : Value) (b : List UInt8) (w : World) (h : SliceIs u8c 1 w v b) : Calls Tryz.prog 112 #[v] w fun e w' => NumsPost w b e w' := by
  obtain ⟨a, cap, rfl, hcap, hmax, -⟩ := id h
  unfold maxLen at hmax
  have H0 : Hid (SliceIs u8c 1 w (.slice a b.length cap) b ∧ numsR 8 b = (numsR 8 b).map ([] ++ ·) ∧ VecAt ((w.alloc (.cells (vecN zero8) 32)).alloc (.cells (vecN zero8) 32)) w.heap.size zero8 ∧ VecAt ((w.alloc (.cells (vecN zero8) 32)).alloc (.cells (vecN zero8) 32)) (w.heap.size + 1) ([] ++ List.replicate (8 - 0) 0) ∧ Below w.heap.size w ((w.alloc (.cells (vecN zero8) 32)).alloc (.cells (vecN zero8) 32))) := Lib.hid (by
    have h1 := VecAt.new w (vs := zero8) rfl
    have h2 := VecAt.new (w.alloc (.cells (vecN zero8) 32)) (vs := zero8) rfl
    rw [World.size_alloc] at h2
    exact ⟨h, by cases numsR 8 b <;> simp, h1.below ((Below.refl _ _).alloc (Nat.le_refl _) _), h2, ((Below.refl _ _).alloc (Nat.le_refl _) _).alloc (by simp) _⟩)
  obtain ⟨n, hn⟩ : ∃ n, b.length = n := ⟨_, rfl⟩
  rw [hn] at H0 hcap ⊢
  have HN0 := Lib.hid hn
  clear h hn
  go_enter Tryz.func112, Tryz.ntmps112
  go_wp2_with fail
  go_loopg [0, 9] 8 (fun gg bv iv wr => ∃ (k : Nat) (vs : List Nat) (r : List UInt8) (a : Option Addr) (n cap : Nat), gg = 8 - k ∧ k ≤ 8 ∧ n ≤ cap ∧ cap ≤ 9223372036854775807 ∧ bv = .slice a n cap ∧ iv = .int .i64 k ∧ Hid ((SliceIs u8c 1 w (.slice a n cap) r ∧ r.length = n ∧ vs.length = k) ∧ numsR 8 b = (numsR (8 - k) r).map (vs ++ ·) ∧ VecAt wr w.heap.size zero8 ∧ Below w.heap.size w wr ) ∧ Hid (VecAt wr (w.heap.size + 1) (vs ++ List.replicate (8 - k) 0)))
  case atStart => exact ⟨0, [], b, a, n, cap, rfl, by omega, hcap, by omega, rfl, rfl, Lib.hid ⟨⟨H0.out.1, HN0.out, rfl⟩, H0.out.2.1, H0.out.2.2.1, H0.out.2.2.2.2⟩, Lib.hid H0.out.2.2.2.1⟩
  case round =>
    clear H0 HN0 hcap hmax
    obtain ⟨k, vs, r, a, n, cap, hg, hk, hcap, hmax, rfl, rfl, HK, HV⟩ := hrel
    have HG := Lib.hid hg
    clear hg
    by_cases hlt : k < 8
    · have hk1 : (k : Int) < 8 := by omega
      go_wp2_with fail
      refine (take_any _ r wr (HK.out.1.1.below HK.out.2.2.2)).mono ?_
      rintro e w3 ⟨rfl, rfl⟩
      cases hv : takeV r with
      | none =>
        have hR := takeR_none (takeV_none.1 hv)
        have HNO : Hid (numsR 8 b = none) := Lib.hid (by rw [HK.out.2.1, show 8 - k = (8 - (k + 1)) + 1 by omega, numsR_none hv]; rfl)
        rw [hR]
        clear hR hv
        have hT0 := HK.out.2.2.1.1
        go_wp2_with (with_reducible refine wpList_store_row rfl _ _ _ rfl w.heap.size (vecN zero8) rfl rfl _ _ hT0 (vec_size8 rfl) rfl (vecN_one _) ?_)
        (try simp only [Exit.inBlock, Exit.then])
        refine bodyPost_ret (results_cell2 rfl _ _ _ w.heap.size _ (vecN zero8) _ _ rfl (setRow_heap _ _ _ _ _ _ HK.out.2.2.1.1) rfl Tryz.underlying32 (vec_size8 rfl)) rfl ?_
        exact .inr ⟨HNO.out, ⟨_, _, rfl⟩, Ext.new HK.out.2.2.2 (ext_setRow1 _ _ _) (fun i hi _ e => by omega) HK.out.2.2.2.size⟩
      | some x =>
        have hR := takeR_some (takeV_some.1 hv)
        have HX := Lib.hid hv
        have hpb : (putB x).length ≤ r.length := (takeV_some.1 hv).2.length_le
        have hxlt := (takeV_some.1 hv).1
        rw [HK.out.1.2.1] at hpb
        obtain ⟨u, hu⟩ : ∃ u, (putB x).length = u := ⟨_, rfl⟩
        rw [hu] at hR hpb
        have HU := Lib.hid hu
        rw [hR]
        clear hR hv hu
        by_cases hbig : 1048576 < x
        · have hb1 : (1048576 : Int) < (x : Int) := by omega
          have HNO : Hid (numsR 8 b = none) := Lib.hid (by rw [HK.out.2.1, show 8 - k = (8 - (k + 1)) + 1 by omega, numsR_big HX.out hbig]; rfl)
          have hT0 := HK.out.2.2.1.1
          go_wp2_with (with_reducible refine wpList_store_row rfl _ _ _ rfl w.heap.size (vecN zero8) rfl rfl _ _ hT0 (vec_size8 rfl) rfl (vecN_one _) ?_)
          (try simp only [Exit.inBlock, Exit.then])
          refine bodyPost_ret (results_cell2 rfl _ _ _ w.heap.size _ (vecN zero8) _ _ rfl (setRow_heap _ _ _ _ _ _ HK.out.2.2.1.1) rfl Tryz.underlying32 (vec_size8 rfl)) rfl ?_
          exact .inr ⟨HNO.out, ⟨_, _, rfl⟩, Ext.new HK.out.2.2.2 (ext_setRow1 _ _ _) (fun i hi _ e => by omega) HK.out.2.2.2.size⟩
        have hb1 : ¬ (1048576 : Int) < (x : Int) := by omega
        have cv := HV.out.cell (fill_get HK.out.1.2.2 hlt)
        have fv := HV.out.free k
        obtain ⟨a4, c4, hs4, hS4, -⟩ := slice_from (P := Tryz.prog) (ea := u8c) Tryz.underlying22 size_u8 a n cap u hcap hpb
        have hq4 := hS4 w r HK.out.1.2.1 HK.out.1.1
        obtain ⟨a5, c5, e4, hc4, hm4, _⟩ := id hq4
        injection e4 with e5 e6 e7
        have hc5 : n - u ≤ c4 ∧ c4 ≤ 9223372036854775807 := by rw [← e6, ← e7] at hc4; rw [← e7] at hm4; unfold maxLen at hm4; exact ⟨hc4, by omega⟩
        clear e5 e6 e7 hc4 hm4
        have HNEW : Hid ((SliceIs u8c 1 w (.slice a4 (n - u) c4) (r.drop u) ∧ (r.drop u).length = n - u ∧ (vs ++ [x]).length = k + 1) ∧ numsR 8 b = (numsR (8 - (k + 1)) (r.drop u)).map ((vs ++ [x]) ++ ·) ∧ VecAt (wr.setCell ⟨w.heap.size + 1, k, none⟩ (.int .i64 (x : Int))) w.heap.size zero8 ∧ Below w.heap.size w (wr.setCell ⟨w.heap.size + 1, k, none⟩ (.int .i64 (x : Int)))) := Lib.hid (by
          refine ⟨⟨hq4, by rw [List.length_drop, HK.out.1.2.1], by rw [List.length_append, HK.out.1.2.2]; rfl⟩, ?_, HK.out.2.2.1.ext (ext_set1 _ _ _ _) (by omega), HK.out.2.2.2.setCell (by show w.heap.size ≤ w.heap.size + 1; omega) _⟩
          rw [HK.out.2.1, show 8 - k = (8 - (k + 1)) + 1 by omega, numsR_step HX.out hbig, HU.out, opt_map_map])
        have HVN : Hid (VecAt (wr.setCell ⟨w.heap.size + 1, k, none⟩ (.int .i64 (x : Int))) (w.heap.size + 1) ((vs ++ [x]) ++ List.replicate (8 - (k + 1)) 0)) := Lib.hid (by rw [← fill_step HK.out.1.2.2 hlt]; exact HV.out.set)
        clear hS4 hq4
        go_wp2_with fail
        go_roundg (8 - (k + 1))
        case measure => rw [HG.out]; omega
        case rel => exact ⟨k + 1, vs ++ [x], r.drop u, a4, n - u, c4, rfl, by omega, hc5.1, hc5.2, rfl, by go_num, HNEW, HVN⟩
    · have hk1 : ¬ (k : Int) < 8 := by omega
      obtain rfl : k = 8 := by omega
      by_cases hn0 : 0 < n
      · have hn1 : (0 : Int) < (n : Int) := by omega
        have HNO : Hid (numsR 8 b = none) := Lib.hid (by
          rw [HK.out.2.1, Nat.sub_self, numsR_zero, if_neg (fun e => by have := HK.out.1.2.1; rw [e] at this; simp at this; omega)]
          rfl)
        have hT0 := HK.out.2.2.1.1
        go_wp2_with (with_reducible refine wpList_store_row rfl _ _ _ rfl w.heap.size (vecN zero8) rfl rfl _ _ hT0 (vec_size8 rfl) rfl (vecN_one _) ?_)
        (try simp only [Exit.inBlock, Exit.then])
        refine bodyPost_ret (results_cell2 rfl _ _ _ w.heap.size _ (vecN zero8) _ _ rfl (setRow_heap _ _ _ _ _ _ HK.out.2.2.1.1) rfl Tryz.underlying32 (vec_size8 rfl)) rfl ?_
        exact .inr ⟨HNO.out, ⟨_, _, rfl⟩, Ext.new HK.out.2.2.2 (ext_setRow1 _ _ _) (fun i hi _ e => by omega) HK.out.2.2.2.size⟩
      · have hn1 : ¬ (0 : Int) < (n : Int) := by omega
        have HYES : Hid (numsR 8 b = some vs) := Lib.hid (by
          rw [HK.out.2.1, Nat.sub_self, numsR_zero, if_pos (List.eq_nil_of_length_eq_zero (by rw [HK.out.1.2.1]; omega))]
          simp)
        have hV8 := HV.out
        rw [Nat.sub_self, List.replicate_zero, List.append_nil] at hV8
        have HV8 := Lib.hid hV8
        clear hV8
        have hV1 := HV8.out.1
        have hT0 := HK.out.2.2.1.1
        have hz8 := vec_size8 HV8.out.2
        have hold8 : (vecN zero8).size = (vecN vs).size := by rw [vecN_size, vecN_size, HV8.out.2]; rfl
        go_wp2_with (first | (refine wpList_load_row rfl 32 (.tmp 4) rfl (w.heap.size + 1) rfl _ _ _ _ hV1 Tryz.underlying32 rfl hz8 ?_) | (refine wpList_store_row rfl 32 (.tmp 2) (.tmp 46) rfl w.heap.size (vecN vs) rfl rfl _ _ hT0 hz8 hold8 (vecN_one _) ?_))
        (try simp only [Exit.inBlock, Exit.then])
        refine bodyPost_ret (results_cell2 rfl _ _ _ w.heap.size _ (vecN vs) _ _ rfl (setRow_heap _ _ _ _ _ _ HK.out.2.2.1.1) rfl Tryz.underlying32 hz8) rfl ?_
        exact .inl ⟨vs, HYES.out, HV8.out.2, rfl, Ext.new HK.out.2.2.2 (ext_setRow1 _ _ _) (fun i hi _ e => by omega) HK.out.2.2.2.size⟩
end Go.Proofs.YtgmdimbiipemhaaGreatDoor
namespace Go.Proofs.YtgmdimbiipemhaaGreatDoor
open Go.RowKit Go.Deep
set_option linter.unusedSimpArgs false
set_option linter.unusedVariables false
def HeardPost (w : World) (b : List UInt8) (e : Ending) (w' : World) : Prop :=
  (∃ vs l x, hearP b = some (vs, l) ∧ vs.length = 8 ∧ e = .returned (.tuple #[vecV vs, x, .nilIface]) ∧ Own OpD.cells 26 68 w.heap.size w' x l ∧ Below w.heap.size w w') ∨
  (hearP b = none ∧ (∃ s m, e = .returned (.tuple #[vecV zero8, .slice none 0 0, atErrG21 s m])) ∧ Below w.heap.size w w')
def HearPost (w : World) (b : List UInt8) (e : Ending) (w' : World) : Prop :=
  (∃ vs l x, hearP b = some (vs, l) ∧ vs.length = 8 ∧ e = .returned (.tuple #[vecV vs, x, .int .i64 0]) ∧ Own OpD.cells 26 68 w.heap.size w' x l ∧ Below w.heap.size w w') ∨
  (hearP b = none ∧ e = .returned (.tuple #[vecV zero8, .slice none 0 0, .int .i64 211]) ∧ Below w.heap.size w w')
theorem NumsPost.both {w w' : World} {b : List UInt8} {e : Ending} (h : NumsPost w b e w') : ∃ vs E, vs.length = 8 ∧ e = .returned (.tuple #[vecV vs, E]) ∧ ((numsR 8 b = some vs ∧ E = .nilIface) ∨ (numsR 8 b = none ∧ vs = zero8 ∧ ∃ s m, E = atErrG21 s m)) ∧ Below w.heap.size w w' := by
  rcases h with ⟨vs, h1, h2, h3, h4⟩ | ⟨h1, ⟨s, m, h2⟩, h3⟩
  · exact ⟨vs, _, h2, h3, .inl ⟨h1, rfl⟩, h4⟩
  · exact ⟨zero8, _, rfl, h2, .inr ⟨h1, rfl, s, m, rfl⟩, h3⟩
set_option maxRecDepth 20000 in
set_option maxHeartbeats 8000000 in
theorem heard_any (v : Value) (b : List UInt8) (w : World) (h : SliceIs u8c 1 w v b) (hg : ErrTy w) : Calls Tryz.prog 62 #[v] w fun e w' => HeardPost w b e w' := by
  obtain ⟨a, cap, rfl, hcap, hmax, -⟩ := id h
  unfold maxLen at hmax
  obtain ⟨n, hn⟩ : ∃ n, b.length = n := ⟨_, rfl⟩
  rw [hn] at h hcap ⊢
  have HN0 := Lib.hid hn
  have H0 : Hid (SliceIs u8c 1 (w.alloc (.cells (vecN zero8) 32)) (.slice a n cap) b ∧ VecAt (w.alloc (.cells (vecN zero8) 32)) w.heap.size zero8 ∧ Below w.heap.size w (w.alloc (.cells (vecN zero8) 32)) ∧ ErrTy (w.alloc (.cells (vecN zero8) 32)) ∧ w.heap.size < (w.alloc (.cells (vecN zero8) 32)).heap.size) := Lib.hid (by
    have hb : Below w.heap.size w (w.alloc (.cells (vecN zero8) 32)) := (Below.refl _ _).alloc (Nat.le_refl _) _
    exact ⟨h.below hb, VecAt.new w (vs := zero8) rfl, hb, hg.below hb, by simp⟩)
  clear h hn hg
  go_enter Tryz.func62, Tryz.ntmps62
  go_wp2_with fail
  refine (taken_any _ b _ H0.out.1).mono ?_
  rintro e w2 (⟨k, body, v2, ht, rfl, own2, b2⟩ | ⟨hno, ⟨c, hc, rfl⟩, b2⟩)
  rotate_left
  · have HT := Lib.hid (H0.out.2.1.below b2)
    have HB : Hid (Below w.heap.size w w2) := Lib.hid (H0.out.2.2.1.trans (b2.mono H0.out.2.2.1.size))
    have HNO := Lib.hid (hearP_none hno)
    clear b2 hno
    have hT0 := HT.out.1
    go_wp2_with (with_reducible refine wpList_store_row rfl _ _ _ rfl w.heap.size (vecN zero8) rfl rfl _ _ hT0 (vec_size8 rfl) rfl (vecN_one _) ?_)
    (try simp only [Exit.inBlock, Exit.then])
    refine bodyPost_ret (results_cell3 rfl _ _ _ w.heap.size _ (vecN zero8) _ _ rfl (setRow_heap _ _ _ _ _ _ HT.out.1) rfl Tryz.underlying32 (vec_size8 rfl)) rfl ?_
    exact .inr ⟨HNO.out, ⟨_, _, rfl⟩, Ext.new HB.out (ext_setRow1 _ _ _) (fun i hi _ e => by omega) HB.out.size⟩
  obtain ⟨⟨ta, tn, tc⟩, e2⟩ := own2.sl
  dsimp only at e2
  subst e2
  have H2 : Hid (SliceIs u8c 1 w2 (.slice ta tn tc) body ∧ ErrTy w2 ∧ w.heap.size < w2.heap.size) := Lib.hid ⟨own2.slice u8c_len, H0.out.2.2.2.1.below b2, Nat.lt_of_lt_of_le H0.out.2.2.2.2 b2.size⟩
  have HT := Lib.hid (H0.out.2.1.below b2)
  have HB : Hid (Below w.heap.size w w2) := Lib.hid (H0.out.2.2.1.trans (b2.mono H0.out.2.2.1.size))
  have HTK := Lib.hid ht
  clear own2 b2 ht
  obtain ⟨q, hq⟩ : ∃ q, 11 + body.length = q := ⟨_, rfl⟩
  rw [hq]
  have HQ := Lib.hid hq
  clear hq
  by_cases hqn : q = n
  rotate_left
  · have hqn1 : ¬ (q : Int) = (n : Int) := by omega
    have HNO := Lib.hid (hearP_len HTK.out (by rw [HQ.out, HN0.out]; exact hqn))
    clear hqn
    have hT0 := HT.out.1
    go_wp2_with (with_reducible refine wpList_store_row rfl _ _ _ rfl w.heap.size (vecN zero8) rfl rfl _ _ hT0 (vec_size8 rfl) rfl (vecN_one _) ?_)
    (try simp only [Exit.inBlock, Exit.then])
    refine bodyPost_ret (results_cell3 rfl _ _ _ w.heap.size _ (vecN zero8) _ _ rfl (setRow_heap _ _ _ _ _ _ HT.out.1) rfl Tryz.underlying32 (vec_size8 rfl)) rfl ?_
    exact .inr ⟨HNO.out, ⟨_, _, rfl⟩, Ext.new HB.out (ext_setRow1 _ _ _) (fun i hi _ e => by omega) HB.out.size⟩
  subst hqn
  have HL : Hid (11 + body.length = b.length) := Lib.hid (by rw [HQ.out, HN0.out])
  have hkl := k.toNat_lt
  by_cases hk65 : k = 65
  · have hk1 : (k.toNat : Int) = 65 := by rw [hk65]; rfl
    have HP : Hid (hearP b = (numsR 8 body).map (fun vs => (vs, []))) := Lib.hid (hearP_ask (by rw [← hk65]; exact HTK.out) HL.out)
    clear hk65
    go_wp2_with fail
    refine (gnums_any _ body w2 H2.out.1).mono ?_
    intro e w3 hpost
    obtain ⟨vs, E, hvs, rfl, hE, b3⟩ := hpost.both
    have hT3 := HT.out.below b3
    have hb3 : Below w.heap.size w w3 := HB.out.trans (b3.mono HB.out.size)
    have hn3 := VecAt.new w3 (vs := zero8) rfl
    have hb4 : Below w3.heap.size w3 (w3.alloc (.cells (vecN zero8) 32)) := (Below.refl _ _).alloc (Nat.le_refl _) _
    have hlt3 := hT3.lt
    have hr3 := hn3.row hvs
    have hx3 := ext_setRow1 (w3.alloc (.cells (vecN zero8) 32)) w3.heap.size (vecN vs)
    have hT4 := (hT3.below hb4).ext hx3 (by omega)
    have hb5 : Below w.heap.size w ((w3.alloc (.cells (vecN zero8) 32)).setRow w3.heap.size (vecN vs)) := Ext.new (hb3.trans (hb4.mono hb3.size)) hx3 (fun i hi _ e => by omega) (by rw [World.size_alloc]; omega)
    have hz8 := vec_size8 hvs
    have hold8 : (vecN zero8).size = (vecN vs).size := by rw [vecN_size, vecN_size, hvs]; rfl
    have hA := hn3.1
    have hR := hr3.1
    have hTT := hT4.1
    have HF : Hid ((((numsR 8 body = some vs ∧ E = .nilIface) ∨ (numsR 8 body = none ∧ vs = zero8 ∧ ∃ s m, E = atErrG21 s m)) ∧ vs.length = 8) ∧ VecAt ((w3.alloc (.cells (vecN zero8) 32)).setRow w3.heap.size (vecN vs)) w.heap.size zero8 ∧ Below w.heap.size w ((w3.alloc (.cells (vecN zero8) 32)).setRow w3.heap.size (vecN vs))) := Lib.hid ⟨⟨hE, hvs⟩, hT4, hb5⟩
    clear hE hvs hn3 hb4 hr3 hx3 hT4 hb5 hT3 hb3 b3 hlt3 hpost
    go_wp2_with (first | (refine wpList_store_row rfl 32 (.tmp 9) (.tmp 38) rfl w3.heap.size (vecN vs) rfl rfl _ _ hA hz8 hold8 (vecN_one _) ?_) | (refine wpList_load_row rfl 32 (.tmp 9) rfl w3.heap.size rfl _ _ _ _ hR Tryz.underlying32 rfl hz8 ?_) | (refine wpList_store_row rfl 32 (.tmp 2) (.tmp 40) rfl w.heap.size (vecN vs) rfl rfl _ _ hTT hz8 hold8 (vecN_one _) ?_))
    (try simp only [Exit.inBlock, Exit.then])
    refine bodyPost_ret (results_cell3 rfl _ _ _ w.heap.size _ (vecN vs) _ _ rfl (setRow_heap _ _ _ _ _ _ HF.out.2.1.1) rfl Tryz.underlying32 hz8) rfl ?_
    have hbf := Ext.new HF.out.2.2 (ext_setRow1 _ w.heap.size (vecN vs)) (fun i hi _ e => by omega) HF.out.2.2.size
    rcases HF.out.1.1 with ⟨hs, hE⟩ | ⟨hs, hz, s, m, hE⟩
    · exact .inl ⟨vs, [], .slice none 0 0, by rw [HP.out, hs]; rfl, HF.out.1.2, by rw [hE]; rfl, Own.nil, hbf⟩
    · refine .inr ⟨by rw [HP.out, hs]; rfl, ⟨s, m, ?_⟩, hbf⟩
      rw [hE, hz]
      rfl
  have hk1 : ¬ (k.toNat : Int) = 65 := fun e => hk65 (UInt8.toNat_inj.1 (show k.toNat = 65 by omega))
  by_cases hk71 : k = 71
  rotate_left
  · have hk2 : ¬ (k.toNat : Int) = 71 := fun e => hk71 (UInt8.toNat_inj.1 (show k.toNat = 71 by omega))
    have HNO := Lib.hid (hearP_kind HTK.out hk65 hk71)
    clear hk65 hk71
    have hT0 := HT.out.1
    go_wp2_with (with_reducible refine wpList_store_row rfl _ _ _ rfl w.heap.size (vecN zero8) rfl rfl _ _ hT0 (vec_size8 rfl) rfl (vecN_one _) ?_)
    (try simp only [Exit.inBlock, Exit.then])
    refine bodyPost_ret (results_cell3 rfl _ _ _ w.heap.size _ (vecN zero8) _ _ rfl (setRow_heap _ _ _ _ _ _ HT.out.1) rfl Tryz.underlying32 (vec_size8 rfl)) rfl ?_
    exact .inr ⟨HNO.out, ⟨_, _, rfl⟩, Ext.new HB.out (ext_setRow1 _ _ _) (fun i hi _ e => by omega) HB.out.size⟩
  have hk2 : (k.toNat : Int) = 71 := by rw [hk71]; rfl
  have HP := Lib.hid (hearP_give (by rw [← hk71]; exact HTK.out) HL.out)
  clear hk71 hk65
  go_wp2_with fail
  refine (decode_any _ body w2 H2.out.1 H2.out.2.1).mono ?_
  rintro e w3 (⟨l, x, hd, rfl, own3, b3⟩ | ⟨hd, rfl, b3⟩)
  rotate_left
  · have HNO : Hid (hearP b = none) := Lib.hid (by rw [HP.out, hd])
    have HT3 := Lib.hid (HT.out.below b3)
    have HB3 : Hid (Below w.heap.size w w3) := Lib.hid (HB.out.trans (b3.mono HB.out.size))
    clear b3 hd
    have hT0 := HT3.out.1
    go_wp2_with (with_reducible refine wpList_store_row rfl _ _ _ rfl w.heap.size (vecN zero8) rfl rfl _ _ hT0 (vec_size8 rfl) rfl (vecN_one _) ?_)
    (try simp only [Exit.inBlock, Exit.then])
    refine bodyPost_ret (results_cell3 rfl _ _ _ w.heap.size _ (vecN zero8) _ _ rfl (setRow_heap _ _ _ _ _ _ HT3.out.1) rfl Tryz.underlying32 (vec_size8 rfl)) rfl ?_
    exact .inr ⟨HNO.out, ⟨_, _, rfl⟩, Ext.new HB3.out (ext_setRow1 _ _ _) (fun i hi _ e => by omega) HB3.out.size⟩
  obtain ⟨⟨xa, xn, xc⟩, e3⟩ := own3.sl
  dsimp only at e3
  subst e3
  obtain rfl : xn = l.length := (own3.nlen OpD.len).1
  have HT3 := Lib.hid (HT.out.below b3)
  have HB3 : Hid (Below w.heap.size w w3) := Lib.hid (HB.out.trans (b3.mono HB.out.size))
  have HO := Lib.hid (own3.mono (show w.heap.size ≤ w2.heap.size from HB.out.size))
  have HOB := Lib.hid own3
  clear own3 b3
  by_cases hl : l = []
  · have hl0 : (l.length : Int) = 0 := by rw [hl]; rfl
    have HNO : Hid (hearP b = none) := Lib.hid (by rw [HP.out, hd]; exact if_pos hl)
    clear hl hd
    have hT0 := HT3.out.1
    go_wp2_with (with_reducible refine wpList_store_row rfl _ _ _ rfl w.heap.size (vecN zero8) rfl rfl _ _ hT0 (vec_size8 rfl) rfl (vecN_one _) ?_)
    (try simp only [Exit.inBlock, Exit.then])
    refine bodyPost_ret (results_cell3 rfl _ _ _ w.heap.size _ (vecN zero8) _ _ rfl (setRow_heap _ _ _ _ _ _ HT3.out.1) rfl Tryz.underlying32 (vec_size8 rfl)) rfl ?_
    exact .inr ⟨HNO.out, ⟨_, _, rfl⟩, Ext.new HB3.out (ext_setRow1 _ _ _) (fun i hi _ e => by omega) HB3.out.size⟩
  have hl0 : ¬ (l.length : Int) = 0 := by have := List.length_pos_iff.2 hl; omega
  have HYES : Hid (hearP b = some (zero8, l)) := Lib.hid (by rw [HP.out, hd]; exact if_neg hl)
  have h2w : w2.heap.size ≠ w.heap.size := by have := H2.out.2.2; omega
  have HXX : Hid (Own OpD.cells 26 68 w.heap.size (w3.setRow w.heap.size (vecN zero8)) (.slice xa l.length xc) l) := Lib.hid ((HOB.out.ext (ext_setRow1 w3 w.heap.size (vecN zero8)) (fun i hi e => by have := (HOB.out.blk i hi).1; have := H2.out.2.2; omega)).mono HB.out.size)
  clear hl hd h2w
  have hT0 := HT3.out.1
  go_wp2_with (with_reducible refine wpList_store_row rfl _ _ _ rfl w.heap.size (vecN zero8) rfl rfl _ _ hT0 (vec_size8 rfl) rfl (vecN_one _) ?_)
  (try simp only [Exit.inBlock, Exit.then])
  refine bodyPost_ret (results_cell3 rfl _ _ _ w.heap.size _ (vecN zero8) _ _ rfl (setRow_heap _ _ _ _ _ _ HT3.out.1) rfl Tryz.underlying32 (vec_size8 rfl)) rfl ?_
  exact .inl ⟨zero8, l, _, HYES.out, rfl, rfl, HXX.out, Ext.new HB3.out (ext_setRow1 _ _ _) (fun i hi _ e => by omega) HB3.out.size⟩
end Go.Proofs.YtgmdimbiipemhaaGreatDoor
namespace Go.Proofs.YtgmdimbiipemhaaGreatDoor
open Go.RowKit Go.Deep
set_option linter.unusedSimpArgs false
set_option linter.unusedVariables false
set_option maxRecDepth 20000 in
set_option maxHeartbeats 8000000 in
theorem hear_any (v : Value) (b : List UInt8) (w : World) (h : SliceIs u8c 1 w v b) (hg : ErrTy w) : Calls Tryz.prog 19 #[v] w fun e w' => HearPost w b e w' := by
  obtain ⟨a, cap, rfl, hcap, hmax, -⟩ := id h
  unfold maxLen at hmax
  have H0 : Hid (SliceIs u8c 1 (w.alloc (.cells (vecN zero8) 32)) (.slice a b.length cap) b ∧ VecAt (w.alloc (.cells (vecN zero8) 32)) w.heap.size zero8 ∧ Below w.heap.size w (w.alloc (.cells (vecN zero8) 32)) ∧ ErrTy (w.alloc (.cells (vecN zero8) 32)) ∧ w.heap.size < (w.alloc (.cells (vecN zero8) 32)).heap.size) := Lib.hid (by
    have hb : Below w.heap.size w (w.alloc (.cells (vecN zero8) 32)) := (Below.refl _ _).alloc (Nat.le_refl _) _
    exact ⟨h.below hb, VecAt.new w (vs := zero8) rfl, hb, hg.below hb, by simp⟩)
  clear h hg
  go_enter Tryz.func19, Tryz.ntmps19
  go_wp2_with fail
  refine (heard_any _ b _ H0.out.1 H0.out.2.2.2.1).mono ?_
  rintro e w2 (⟨vs, l, x, hh, hvs, rfl, own2, b2⟩ | ⟨hno, ⟨s, m, rfl⟩, b2⟩)
  · obtain ⟨⟨xa, xn, xc⟩, e2⟩ := own2.sl
    dsimp only at e2
    subst e2
    have hT2 := H0.out.2.1.below b2
    have hB2 : Below w.heap.size w w2 := H0.out.2.2.1.trans (b2.mono H0.out.2.2.1.size)
    have hlt2 : w.heap.size < w2.heap.size := Nat.lt_of_lt_of_le H0.out.2.2.2.2 b2.size
    have hn3 := VecAt.new w2 (vs := zero8) rfl
    have hr3 := hn3.row hvs
    have hx3 := ext_setRow1 (w2.alloc (.cells (vecN zero8) 32)) w2.heap.size (vecN vs)
    have hb4 : Below w2.heap.size w2 (w2.alloc (.cells (vecN zero8) 32)) := (Below.refl _ _).alloc (Nat.le_refl _) _
    have hb5 : Below w2.heap.size w2 ((w2.alloc (.cells (vecN zero8) 32)).setRow w2.heap.size (vecN vs)) := Ext.new hb4 hx3 (fun i hi _ e => by omega) (by simp)
    have hz8 := vec_size8 hvs
    have hold8 : (vecN zero8).size = (vecN vs).size := by first | rfl | (rw [vecN_size, vecN_size, hvs]; rfl)
    have hA := hn3.1
    have hsz : ((w2.alloc (.cells (vecN zero8) 32)).setRow w2.heap.size (vecN vs)).heap.size = w2.heap.size + 1 := by simp
    obtain ⟨w5, hw5⟩ : ∃ w5, (w2.alloc (.cells #[.int .i64 0, .int .i64 0, .int .i64 0, .int .i64 0, .int .i64 0, .int .i64 0, .int .i64 0, .int .i64 0] 32)).setRow w2.heap.size (vecN vs) = w5 := ⟨_, rfl⟩
    have e5 : (w2.alloc (.cells (vecN zero8) 32)).setRow w2.heap.size (vecN vs) = w5 := hw5
    rw [e5] at hr3 hb5 hsz
    clear e5
    have hb6 : Below w5.heap.size w5 (w5.alloc (.cells #[.int .i64 0] 109)) := (Below.refl _ _).alloc (Nat.le_refl _) _
    have hf6 := heap_new8 w5 (.cells #[.int .i64 0] 109)
    obtain ⟨w6, hw6⟩ : ∃ w6, w5.alloc (.cells #[.int .i64 0] 109) = w6 := ⟨_, rfl⟩
    rw [hw6] at hb6 hf6
    have hV6 := hr3.below hb6
    have hT6 := (hT2.below hb5).below hb6
    have hB6 : Below w.heap.size w w6 := hB2.trans ((hb5.mono hB2.size).trans (hb6.mono (by omega)))
    have HF : Hid (hearP b = some (vs, l) ∧ vs.length = 8 ∧ Own OpD.cells 26 68 w.heap.size (w6.setRow w.heap.size (vecN vs)) (.slice xa xn xc) l ∧ VecAt w6 w.heap.size zero8 ∧ Below w.heap.size w w6) := Lib.hid ⟨hh, hvs, ((((own2.below1 hb5).below1 hb6).ext (ext_setRow1 w6 w.heap.size (vecN vs)) (fun i hi e => by have := (((own2.below1 hb5).below1 hb6).blk i hi).1; rw [World.size_alloc] at this; omega)).mono H0.out.2.2.1.size), hT6, hB6⟩
    have hV1 := hV6.1
    have hT1 := hT6.1
    have HW5 := Lib.hid hw5
    have HW6 := Lib.hid hw6
    clear hT2 hB2 hn3 hr3 hx3 hb4 hb5 hb6 hf6 hV6 hT6 hB6 own2 b2 hh hvs hw5 hw6 hsz hlt2
    go_wp2_with (refine wpList_store_row rfl 32 (.tmp 5) (.tmp 12) rfl w2.heap.size (vecN vs) rfl rfl _ _ hA hz8 hold8 (vecN_one _) ?_)
    rw [HW5.out, HW6.out]
    refine (as_nil _ _).mono ?_
    rintro e w7 ⟨rfl, rfl⟩
    go_wp2_with (first | (refine wpList_load_row rfl 32 (.tmp 5) rfl w2.heap.size rfl _ _ _ _ hV1 Tryz.underlying32 rfl hz8 ?_) | (refine wpList_store_row rfl 32 (.tmp 2) (.tmp 19) rfl w.heap.size (vecN vs) rfl rfl _ _ hT1 hz8 hold8 (vecN_one _) ?_))
    (try simp only [Exit.inBlock, Exit.then])
    refine bodyPost_ret (results_cell3 rfl _ _ _ w.heap.size _ (vecN vs) _ _ rfl (setRow_heap _ _ _ _ _ _ HF.out.2.2.2.1.1) rfl Tryz.underlying32 hz8) rfl ?_
    exact .inl ⟨vs, l, _, HF.out.1, HF.out.2.1, rfl, HF.out.2.2.1, Ext.new HF.out.2.2.2.2 (ext_setRow1 _ _ _) (fun i hi _ e => by omega) HF.out.2.2.2.2.size⟩
  · obtain ⟨z0, hz0⟩ : ∃ z0, zero8 = z0 := ⟨_, rfl⟩
    have hvs : z0.length = 8 := by rw [← hz0]; rfl
    have HVS := Lib.hid hvs
    have eV : vecV zero8 = vecV z0 := by rw [hz0]
    rw [eV]
    clear eV hz0
    have hT2 := H0.out.2.1.below b2
    have hB2 : Below w.heap.size w w2 := H0.out.2.2.1.trans (b2.mono H0.out.2.2.1.size)
    have hlt2 : w.heap.size < w2.heap.size := Nat.lt_of_lt_of_le H0.out.2.2.2.2 b2.size
    have hn3 := VecAt.new w2 (vs := zero8) rfl
    have hr3 := hn3.row hvs
    have hx3 := ext_setRow1 (w2.alloc (.cells (vecN zero8) 32)) w2.heap.size (vecN z0)
    have hb4 : Below w2.heap.size w2 (w2.alloc (.cells (vecN zero8) 32)) := (Below.refl _ _).alloc (Nat.le_refl _) _
    have hb5 : Below w2.heap.size w2 ((w2.alloc (.cells (vecN zero8) 32)).setRow w2.heap.size (vecN z0)) := Ext.new hb4 hx3 (fun i hi _ e => by omega) (by simp)
    have hz8 := vec_size8 hvs
    have hold8 : (vecN zero8).size = (vecN z0).size := by first | rfl | (rw [vecN_size, vecN_size, hvs]; rfl)
    have hA := hn3.1
    have hsz : ((w2.alloc (.cells (vecN zero8) 32)).setRow w2.heap.size (vecN z0)).heap.size = w2.heap.size + 1 := by simp
    obtain ⟨w5, hw5⟩ : ∃ w5, (w2.alloc (.cells #[.int .i64 0, .int .i64 0, .int .i64 0, .int .i64 0, .int .i64 0, .int .i64 0, .int .i64 0, .int .i64 0] 32)).setRow w2.heap.size (vecN z0) = w5 := ⟨_, rfl⟩
    have e5 : (w2.alloc (.cells (vecN zero8) 32)).setRow w2.heap.size (vecN z0) = w5 := hw5
    rw [e5] at hr3 hb5 hsz
    clear e5
    have hb6 : Below w5.heap.size w5 (w5.alloc (.cells #[.int .i64 0] 109)) := (Below.refl _ _).alloc (Nat.le_refl _) _
    have hf6 := heap_new8 w5 (.cells #[.int .i64 0] 109)
    obtain ⟨w6, hw6⟩ : ∃ w6, w5.alloc (.cells #[.int .i64 0] 109) = w6 := ⟨_, rfl⟩
    rw [hw6] at hb6 hf6
    rw [hsz] at hf6
    have hg6 := ((H0.out.2.2.2.1.below b2).below hb5).below hb6
    have hT6 := (hT2.below hb5).below hb6
    have hB6 : Below w.heap.size w w6 := hB2.trans ((hb5.mono hB2.size).trans (hb6.mono (by omega)))
    have HF : Hid (hearP b = none ∧ ErrTy w6 ∧ w6.cell? ⟨w2.heap.size + 1, 0, none⟩ = some (.int .i64 0) ∧ w6.frozen? ⟨w2.heap.size + 1, 0, none⟩ = false ∧ VecAt w6 w.heap.size zero8 ∧ Below w.heap.size w w6 ∧ w.heap.size < w2.heap.size + 1) := Lib.hid ⟨hno, hg6, cell_of_one hf6, free_of_one hf6, hT6, hB6, by omega⟩
    have HW5 := Lib.hid hw5
    have HW6 := Lib.hid hw6
    have HSZ := Lib.hid hsz
    clear hT2 hB2 hn3 hr3 hx3 hb4 hb5 hb6 hf6 hT6 hB6 hg6 b2 hno hvs hw5 hw6 hsz hlt2
    go_wp2_with (refine wpList_store_row rfl 32 (.tmp 5) (.tmp 12) rfl w2.heap.size (vecN z0) rfl rfl _ _ hA hz8 hold8 (vecN_one _) ?_)
    rw [HW5.out, HW6.out]
    refine (as_hitG21 s m ⟨w2.heap.size + 1, 0, none⟩ (.int .i64 0) w6 HF.out.2.1 HF.out.2.2.1 HF.out.2.2.2.1).mono ?_
    rintro e w7 ⟨rfl, hx⟩
    have HT7 := Lib.hid (HF.out.2.2.2.2.1.ext hx (by have := HF.out.2.2.2.2.2.2; show ¬ w.heap.size = w2.heap.size + 1; omega))
    have HB7 : Hid (Below w.heap.size w w7) := Lib.hid (Ext.new HF.out.2.2.2.2.2.1 hx (fun i hi _ e => by have := HF.out.2.2.2.2.2.2; dsimp only at e; omega) HF.out.2.2.2.2.2.1.size)
    clear hx hA
    have hT0 := HT7.out.1
    go_wp2_with (with_reducible refine wpList_store_row rfl _ _ _ rfl w.heap.size (vecN zero8) rfl rfl _ _ hT0 (vec_size8 rfl) rfl (vecN_one _) ?_)
    (try simp only [Exit.inBlock, Exit.then])
    refine bodyPost_ret (results_cell3 rfl _ _ _ w.heap.size _ (vecN zero8) _ _ rfl (setRow_heap _ _ _ _ _ _ HT7.out.1) rfl Tryz.underlying32 (vec_size8 rfl)) rfl ?_
    exact .inr ⟨HF.out.1, rfl, Ext.new HB7.out (ext_setRow1 _ _ _) (fun i hi _ e => by omega) HB7.out.size⟩
end Go.Proofs.YtgmdimbiipemhaaGreatDoor
