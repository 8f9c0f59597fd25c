/- What a loss of power leaves: the new disk, plain and in memory. -/
import Derived.Test.YtmlaojfhmaamcaaLeft06
namespace Go.Proofs.Ytmlaojfhmaamcaa
open Go.RowKit Go.Deep
set_option linter.unusedSimpArgs false
set_option linter.unusedVariables false

section
variable {base : Nat} {w w' : World} {D : DSh} {A : DiskA}
/-- A new file with what it has. -/
theorem DiskIs.bornFull (h : DiskIs base w D A) (hb : Below w.heap.size w w') {fb : Nat} {v : Value} {ps : List PcA} (hf : FileIs base w' fb v ps) (h1 : w.heap.size ≤ fb) (h2 : ∀ b, v.ownBlock = some b → w.heap.size ≤ b) (hz : sizeP ps ≤ 1048576) :
    DiskIs base w' { D with rv := fun g => if g = fb then v else D.rv g } { A with ids := fb :: A.ids, fs := fun g => if g = fb then ps else A.fs g } := by
  have h0 := h.below hb
  have hn : ∀ f ∈ A.ids, f ≠ fb := fun f hf => by have := (h.file f hf).lt; omega
  refine { h0 with file := fun g hg => ?_, apart := fun g k hg hk hne b hb hb' => ?_, ok := ?_ }
  · rcases List.mem_cons.1 hg with rfl | hg
    · dsimp only
      rw [if_pos rfl, if_pos rfl]
      exact hf
    · dsimp only
      rw [if_neg (hn g hg), if_neg (hn g hg)]
      exact h0.file g hg
  · dsimp only at hb hb'
    have old : ∀ g ∈ A.ids, ∀ b, (D.rv g).ownBlock = some b → b < w.heap.size := fun g hg b hb => tag_lt ((h.file g hg).row hb).1
    rcases List.mem_cons.1 hg with e1 | hg1
    · rw [if_pos e1] at hb
      rcases List.mem_cons.1 hk with e2 | hk1
      · exact hne (e1.trans e2.symm)
      · rw [if_neg (hn k hk1)] at hb'
        have := h2 b hb; have := old k hk1 b hb'; omega
    · rw [if_neg (hn g hg1)] at hb
      rcases List.mem_cons.1 hk with e2 | hk1
      · rw [if_pos e2] at hb'
        have := h2 b hb'; have := old g hg1 b hb; omega
      · rw [if_neg (hn k hk1)] at hb'
        exact h.apart g k hg1 hk1 hne b hb hb'
  · refine ⟨fun n f hf => ⟨List.mem_cons_of_mem _ (h.ok.inf n f hf).1, (h.ok.inf n f hf).2⟩, fun n f hf => ⟨List.mem_cons_of_mem _ (h.ok.inb n f hf).1, (h.ok.inb n f hf).2⟩, fun c hc f hf => ⟨List.mem_cons_of_mem _ (h.ok.inc c hc f hf).1, (h.ok.inc c hc f hf).2⟩, fun g hg => ?_⟩
    rcases List.mem_cons.1 hg with rfl | hg
    · dsimp only
      rw [if_pos rfl]
      exact hz
    · dsimp only
      rw [if_neg (hn g hg)]
      exact h.ok.sz g hg
/-- The map of the first names is turned. -/
theorem DiskIs.bases (h : DiskIs base w D A) (hx : Ext (· = D.mb) w w') {bs : List (ByteArray × Nat)} (hm : MapIs Value.string fptr w' D.mb bs) (hok : ∀ n f, (n, f) ∈ bs → f ∈ A.ids ∧ n.size ≤ 8) : DiskIs base w' D { A with base := bs } := by
  have key : ∀ b T, tagOf w b = some T → ¬ b = D.mb := fun b T ht => tag_ne ht (tag_map h.mbase) (by simp)
  exact {
    blk := (hx.block _ h.lpb (key _ _ h.tpb)).trans h.blk
    lo := h.lo
    lof := h.lof
    lob := h.lob
    ne := h.ne
    mfiles := h.mfiles.ext hx (fun e => h.ne e)
    mbase := hm
    ochg := h.ochg.ext hx (fun b hb => key _ _ (tag_own h.ochg hb))
    osyn := h.osyn.ext hx (fun b hb => key _ _ (tag_own h.osyn hb))
    file := fun f hf => (h.file f hf).ext hx (key _ _ (h.file f hf).tag) (fun b hb => key _ _ ((h.file f hf).row hb).1) (fun b hb ht => key _ _ ht)
    apart := h.apart
    ok := ⟨h.ok.inf, hok, h.ok.inc, h.ok.sz⟩ }
/-- Another map of files. -/
theorem DiskIs.reMap (h : DiskIs base w D A) {mf : Nat} {files : List (ByteArray × Nat)} (hm : MapIs Value.string fptr w mf files) (hl : base ≤ mf) (hne : mf ≠ D.mb) (hok : ∀ n f, (n, f) ∈ files → f ∈ A.ids ∧ n.size ≤ 8) :
    DiskIs base (w.setCell ⟨D.pb, 0, none⟩ (.map (some mf))) { D with mf := mf } { A with files := files } := by
  have hx := ext_set w D.pb 0 (.map (some mf))
  have key : ∀ b T, tagOf w b = T → T ≠ some 62 → ¬ b = D.pb := fun b T ht hT => tag_ne ht h.tpb hT
  exact {
    blk := by
      have := Joins.block_setCell (i := 0) h.blk (.map (some mf))
      exact this
    lo := h.lo
    lof := hl
    lob := h.lob
    ne := hne
    mfiles := hm.ext hx (key _ _ (tag_map hm) (by decide))
    mbase := h.mbase.ext hx (key _ _ (tag_map h.mbase) (by decide))
    ochg := h.ochg.ext hx (fun b hb => key _ _ (tag_own h.ochg hb) (by decide))
    osyn := h.osyn.ext hx (fun b hb => key _ _ (tag_own h.osyn hb) (by decide))
    file := fun f hf => (h.file f hf).ext hx (key _ _ (h.file f hf).tag (by decide)) (fun b hb => key _ _ ((h.file f hf).row hb).1 (by decide)) (fun b hb ht => key _ _ ht (by decide))
    apart := h.apart
    ok := ⟨hok, h.ok.inb, h.ok.inc, h.ok.sz⟩ }
end

/-- The new disk, as far as these names have come. -/
structure CutA (A : DiskA) (m : List (ByteArray × Nat)) (at_ : Int) (ks : List Bool) (torn : Int) (A' : DiskA) : Prop where
  chg : A'.chg = []
  syn : A'.syn = []
  now : A'.now = 0
  perm : (A'.base.map (·.1)).Perm (m.map (·.1))
  has : ∀ n f, (n, f) ∈ m → ∃ fb, aget A'.base n = some fb ∧ fb ∈ A'.ids ∧ A'.fs fb = [⟨leftA at_ ks torn (A.fs f), 0, -1⟩]
  vals : ∀ n fb, aget A'.base n = some fb → fb ∈ A'.ids
  one : ∀ n n' fb, aget A'.base n = some fb → aget A'.base n' = some fb → n = n'
  ln : ∀ f ∈ A'.ids, (A'.fs f).length ≤ 1
theorem cut0 (A : DiskA) (at_ : Int) (ks : List Bool) (torn : Int) : CutA A [] at_ ks torn disk0 := ⟨rfl, rfl, rfl, List.Perm.refl _, fun n f h => (by cases h), fun n f h => (by cases h), fun n n' fb h => (by cases h), fun f h => (by cases h)⟩

/-- One name more. -/
def cutStep (n : ByteArray) (fb : Nat) (bs : List UInt8) (A' : DiskA) : DiskA := { A' with ids := fb :: A'.ids, fs := fun g => if g = fb then [⟨bs, 0, -1⟩] else A'.fs g, base := aset A'.base n fb }
theorem CutA.step {A A' : DiskA} {m : List (ByteArray × Nat)} {at_ torn : Int} {ks : List Bool} (h : CutA A m at_ ks torn A') {n : ByteArray} {f fb : Nat} (hn : n ∉ m.map (·.1)) (hfb : fb ∉ A'.ids) : CutA A (m ++ [(n, f)]) at_ ks torn (cutStep n fb (leftA at_ ks torn (A.fs f)) A') := by
  have hnb : n ∉ A'.base.map (·.1) := fun e => hn (h.perm.subset e)
  have hi : aidx A'.base n = none := by
    cases hi : aidx A'.base n with
    | none => rfl
    | some i =>
      obtain ⟨v, e, _⟩ := aidx_some hi
      exact absurd (List.mem_map.2 ⟨(n, v), List.mem_of_getElem? e, rfl⟩) hnb
  have hg : ∀ k, aget (aset A'.base n fb) k = if k = n then some fb else aget A'.base k := fun k => by
    by_cases e : k = n
    · subst e; rw [if_pos rfl]; exact aget_aset_same _ _ _
    · rw [if_neg e]; exact aget_aset_other _ _ (fun e' => e e'.symm)
  refine ⟨h.chg, h.syn, h.now, ?_, fun k g hk => ?_, fun k b hk => ?_, fun k k' b hk hk' => ?_, fun g hg => ?_⟩
  · show ((aset A'.base n fb).map (·.1)).Perm _
    rw [aset_none hi, List.map_append, List.map_append]
    exact h.perm.append_right _
  · simp only [cutStep]
    rcases List.mem_append.1 hk with hk | hk
    · obtain ⟨b, h1, h2, h3⟩ := h.has k g hk
      have hkn : k ≠ n := fun e => hn (List.mem_map.2 ⟨(k, g), hk, e⟩)
      have hbf : b ≠ fb := fun e => hfb (by rw [← e]; exact h2)
      exact ⟨b, by rw [hg, if_neg hkn]; exact h1, List.mem_cons_of_mem _ h2, by rw [if_neg hbf]; exact h3⟩
    · simp at hk
      obtain ⟨rfl, rfl⟩ := hk
      exact ⟨fb, by rw [hg, if_pos rfl], List.mem_cons_self, by rw [if_pos rfl]⟩
  · simp only [cutStep] at hk ⊢
    rw [hg] at hk
    split at hk
    · cases hk; exact List.mem_cons_self
    · exact List.mem_cons_of_mem _ (h.vals k b hk)
  · simp only [cutStep] at hk hk'
    rw [hg] at hk hk'
    split at hk
    · rename_i e1
      cases hk
      split at hk'
      · rename_i e2; rw [e1, e2]
      · exact absurd (h.vals k' fb hk') hfb
    · split at hk'
      · cases hk'
        exact absurd (h.vals k fb hk) hfb
      · exact h.one k k' b hk hk'
  · simp only [cutStep] at hg ⊢
    split
    · simp
    · rename_i e
      exact h.ln g ((List.mem_cons.1 hg).resolve_left e)

end Go.Proofs.Ytmlaojfhmaamcaa
