/- Layer 6: a disk in memory. -/
import Derived.Test.YtmlaojfhmaamcaaRow
import Derived.Test.YtmlaojfhmaamcaaKeyB
namespace Go.Proofs.Ytmlaojfhmaamcaa
open Go.RowKit
set_option linter.unusedSimpArgs false
set_option linter.unusedVariables false

/-- A slice, as a field. -/
structure Sl where
  a : Option Addr
  n : Nat
  cap : Nat
def Sl.val (s : Sl) : Value := .slice s.a s.n s.cap
theorem Own.sl {α : Type} {ea : α → List Value} {k : Nat} {e : TypeId} {base : Nat} {w : World} {v : Value} {l : List α} (h : Own ea k e base w v l) : ∃ s : Sl, v = s.val := by
  rcases h.eq_slice with ⟨rfl, _⟩ | ⟨g, c, rfl, _, _⟩
  · exact ⟨⟨none, 0, 0⟩, rfl⟩
  · exact ⟨⟨_, _, _⟩, rfl⟩

/-- A byte, an integer. -/
def u8c (x : UInt8) : List Value := [.int .u8 x.toNat]
theorem u8c_len (x : UInt8) : (u8c x).length = 1 := rfl
theorem u8c_one (x : UInt8) : ∀ u ∈ u8c x, u.oneCell' = true := by
  intro u hu
  simp only [u8c, List.mem_cons, List.not_mem_nil, or_false] at hu
  subst hu
  rfl
def intc (x : Int) : List Value := [.int .i64 x]
theorem intc_len (x : Int) : (intc x).length = 1 := rfl
theorem intc_one (x : Int) : ∀ u ∈ intc x, u.oneCell' = true := by
  intro u hu
  simp only [intc, List.mem_cons, List.not_mem_nil, or_false] at hu
  subst hu
  rfl

/-- A piece in memory. -/
structure Pc where
  s : Sl
  came : Int
  safe : Int
def Pc.cells (p : Pc) : List Value := [.slice p.s.a p.s.n p.s.cap, .int .i64 p.came, .int .i64 p.safe]
theorem Pc.len (p : Pc) : p.cells.length = 3 := rfl
theorem Pc.one (p : Pc) : ∀ u ∈ p.cells, u.oneCell' = true := by
  intro u hu
  simp only [Pc.cells, List.mem_cons, List.not_mem_nil, or_false] at hu
  rcases hu with rfl | rfl | rfl <;> rfl

/-- A change of names in memory. -/
structure Chg where
  at_ : Int
  name : ByteArray
  old : ByteArray
  f : Option Nat
def ptrV (f : Option Nat) : Value := .pointer (f.map fun b => ⟨b, 0, none⟩)
def Chg.cells (c : Chg) : List Value := [.int .i64 c.at_, .string c.name, .string c.old, ptrV c.f]
theorem Chg.len (p : Chg) : p.cells.length = 4 := rfl
theorem Chg.one (p : Chg) : ∀ u ∈ p.cells, u.oneCell' = true := by
  intro u hu
  simp only [Chg.cells, List.mem_cons, List.not_mem_nil, or_false] at hu
  rcases hu with rfl | rfl | rfl | rfl <;> rfl

/-- An append: its bytes, when it came, when it became durable. -/
structure PcA where
  bs : List UInt8
  came : Int
  safe : Int

/-- The piece in memory is this append. -/
def PcIs (base : Nat) (w : World) (q : Pc) (p : PcA) : Prop := Own u8c 1 5 base w q.s.val p.bs ∧ q.came = p.came ∧ q.safe = p.safe

def sizeP (ps : List PcA) : Nat := (ps.map (·.bs.length)).sum
/-- A file in memory: v is its slice of appends. -/
def FileIs (base : Nat) (w : World) (fb : Nat) (v : Value) (ps : List PcA) : Prop :=
  base ≤ fb ∧ w.heap[fb]? = some (.cells #[v, .int .i64 (sizeP ps)] 74 (0, 0)) ∧
    ∃ qs : List Pc, Own Pc.cells 3 76 base w v qs ∧ qs.length = ps.length ∧ ∀ (i : Nat) q p, qs[i]? = some q → ps[i]? = some p → PcIs base w q p

/-- A disk, plain: files are told by their numbers. -/
structure DiskA where
  files : List (ByteArray × Nat)
  base : List (ByteArray × Nat)
  chg : List Chg
  syn : List Int
  now : Int
  ids : List Nat
  fs : Nat → List PcA

/-- All files are known, all names are short. -/
structure DiskA.Ok (A : DiskA) : Prop where
  inf : ∀ n f, (n, f) ∈ A.files → f ∈ A.ids ∧ n.size ≤ 8
  inb : ∀ n f, (n, f) ∈ A.base → f ∈ A.ids ∧ n.size ≤ 8
  inc : ∀ c ∈ A.chg, ∀ f, c.f = some f → f ∈ A.ids ∧ c.name.size ≤ 8
  sz : ∀ f ∈ A.ids, sizeP (A.fs f) ≤ 1048576

/-- Few calls were made. -/
structure DiskA.Small (A : DiskA) (n : Nat) : Prop where
  now0 : 0 ≤ A.now
  now : A.now ≤ n
  chg : A.chg.length ≤ n
  syn : A.syn.length ≤ n
  pcs : ∀ f ∈ A.ids, (A.fs f).length ≤ n + 1
  fil : A.files.length ≤ n

def fptr (f : Nat) : Value := .pointer (some ⟨f, 0, none⟩)

/-- Where a disk lies. -/
structure DSh where
  pb : Nat
  mf : Nat
  mb : Nat
  vc : Value
  vs : Value
  rv : Nat → Value

/-- A disk in memory. -/
structure DiskIs (base : Nat) (w : World) (D : DSh) (A : DiskA) : Prop where
  blk : w.heap[D.pb]? = some (.cells #[.map (some D.mf), .map (some D.mb), D.vc, D.vs, .int .i64 A.now] 62 (0, 0))
  lo : base ≤ D.pb
  lof : base ≤ D.mf
  lob : base ≤ D.mb
  ne : D.mf ≠ D.mb
  mfiles : MapIs Value.string fptr w D.mf A.files
  mbase : MapIs Value.string fptr w D.mb A.base
  ochg : Own Chg.cells 4 92 base w D.vc A.chg
  osyn : Own intc 1 3 base w D.vs A.syn
  file : ∀ f, f ∈ A.ids → FileIs base w f (D.rv f) (A.fs f)
  apart : ∀ f g, f ∈ A.ids → g ∈ A.ids → f ≠ g → ∀ b, (D.rv f).ownBlock = some b → (D.rv g).ownBlock ≠ some b
  ok : A.Ok

theorem ext_set (w : World) (r i : Nat) (v : Value) : Ext (· = r) w (w.setCell ⟨r, i, none⟩ v) := (Ext.refl (fun k => k = r) w).setCell (p := ⟨r, i, none⟩) (.inr rfl) v

/-- The kind of a block. -/
def tagOf (w : World) (b : Nat) : Option TypeId := match w.heap[b]? with | some (.cells _ T _) => some T | _ => none
theorem tag_cells {w : World} {b : Nat} {c : Array Value} {T : TypeId} {q : Nat × Nat} (h : w.heap[b]? = some (.cells c T q)) : tagOf w b = some T := by simp [tagOf, h]
theorem tag_own {α : Type} {ea : α → List Value} {k : Nat} {e : TypeId} {base : Nat} {w : World} {v : Value} {l : List α} (h : Own ea k e base w v l) {b : Nat} (hb : v.ownBlock = some b) : tagOf w b = some e := by
  obtain ⟨c, hc⟩ := h.tag hb
  exact tag_cells hc
theorem tag_map {w : World} {b : Nat} {K V : Type} [DecidableEq K] {ek : K → Value} {ev : V → Value} {l : List (K × V)} (h : MapIs ek ev w b l) : tagOf w b = none := by
  obtain ⟨_, es, cl, h2, _⟩ := h
  simp [tagOf, h2]
theorem tag_lt {w : World} {b : Nat} {T : TypeId} (h : tagOf w b = some T) : b < w.heap.size := by
  unfold tagOf at h
  cases hb : w.heap[b]? with
  | none => rw [hb] at h; cases h
  | some o => exact (Array.getElem?_eq_some_iff.1 hb).1
theorem tag_ne {w : World} {a b : Nat} {x y : Option TypeId} (h : tagOf w a = x) (k : tagOf w b = y) (hxy : x ≠ y) : a ≠ b := by
  rintro rfl
  exact hxy (h.symm.trans k)
theorem tag_ext {S : Nat → Prop} {w w' : World} {b : Nat} (hx : Ext S w w') (hl : b < w.heap.size) (hn : ¬ S b) : tagOf w' b = tagOf w b := by
  unfold tagOf
  rw [hx.block b hl hn]

/-- The blocks that the disk's calls write. -/
def Foot (D : DSh) (A : DiskA) (b : Nat) : Prop :=
  b = D.pb ∨ b = D.mf ∨ b = D.mb ∨ D.vc.ownBlock = some b ∨ D.vs.ownBlock = some b ∨ ∃ f ∈ A.ids, b = f ∨ (D.rv f).ownBlock = some b

section
variable {base : Nat} {w w' : World} {D : DSh} {A : DiskA} {S : Nat → Prop}

theorem PcIs.ext {q : Pc} {p : PcA} (h : PcIs base w q p) (hx : Ext S w w') (hn : ∀ b, base ≤ b → tagOf w b = some 5 → ¬ S b) : PcIs base w' q p :=
  ⟨h.1.ext hx (fun b hb => hn b (h.1.blk b hb).1 (tag_own h.1 hb)), h.2⟩
theorem FileIs.tag {fb : Nat} {v : Value} {ps : List PcA} (h : FileIs base w fb v ps) : tagOf w fb = some 74 := tag_cells h.2.1
theorem FileIs.row {fb : Nat} {v : Value} {ps : List PcA} (h : FileIs base w fb v ps) {b : Nat} (hb : v.ownBlock = some b) : tagOf w b = some 76 ∧ base ≤ b := by
  obtain ⟨_, _, qs, ho, _⟩ := h
  exact ⟨tag_own ho hb, (ho.blk b hb).1⟩
theorem FileIs.lt {fb : Nat} {v : Value} {ps : List PcA} (h : FileIs base w fb v ps) : fb < w.heap.size := tag_lt h.tag
theorem FileIs.ext {fb : Nat} {v : Value} {ps : List PcA} (h : FileIs base w fb v ps) (hx : Ext S w w') (h1 : ¬ S fb) (h2 : ∀ b, v.ownBlock = some b → ¬ S b) (h3 : ∀ b, base ≤ b → tagOf w b = some 5 → ¬ S b) : FileIs base w' fb v ps := by
  obtain ⟨hl, hb, qs, ho, hn, hp⟩ := h
  exact ⟨hl, (hx.block fb (Array.getElem?_eq_some_iff.1 hb).1 h1).trans hb, qs, ho.ext hx h2, hn, fun i q p hq hp' => (hp i q p hq hp').ext hx h3⟩

theorem DiskIs.tpb (h : DiskIs base w D A) : tagOf w D.pb = some 62 := tag_cells h.blk
theorem DiskIs.lpb (h : DiskIs base w D A) : D.pb < w.heap.size := tag_lt h.tpb
theorem DiskIs.lmf (h : DiskIs base w D A) : D.mf < w.heap.size := h.mfiles.lt
theorem DiskIs.lmb (h : DiskIs base w D A) : D.mb < w.heap.size := h.mbase.lt
/-- Each of its blocks lies there, and holds no bytes. -/
theorem DiskIs.foot (h : DiskIs base w D A) {b : Nat} (hb : Foot D A b) : base ≤ b ∧ b < w.heap.size ∧ tagOf w b ≠ some 5 := by
  rcases hb with rfl | rfl | rfl | hb | hb | ⟨f, hf, rfl | hb⟩
  · exact ⟨h.lo, h.lpb, by rw [h.tpb]; decide⟩
  · exact ⟨h.lof, h.lmf, by rw [tag_map h.mfiles]; decide⟩
  · exact ⟨h.lob, h.lmb, by rw [tag_map h.mbase]; decide⟩
  · exact ⟨(h.ochg.blk b hb).1, (h.ochg.blk b hb).2, by rw [tag_own h.ochg hb]; decide⟩
  · exact ⟨(h.osyn.blk b hb).1, (h.osyn.blk b hb).2, by rw [tag_own h.osyn hb]; decide⟩
  · exact ⟨(h.file b hf).1, (h.file b hf).lt, by rw [(h.file b hf).tag]; decide⟩
  · exact ⟨((h.file f hf).row hb).2, tag_lt ((h.file f hf).row hb).1, by rw [((h.file f hf).row hb).1]; decide⟩
/-- What writes none of its blocks, and no bytes, leaves it. -/
theorem DiskIs.ext (h : DiskIs base w D A) (hx : Ext S w w') (hn : ∀ b, Foot D A b → ¬ S b) (hu : ∀ b, base ≤ b → tagOf w b = some 5 → ¬ S b) : DiskIs base w' D A where
  blk := (hx.block _ h.lpb (hn _ (.inl rfl))).trans h.blk
  lo := h.lo
  lof := h.lof
  lob := h.lob
  ne := h.ne
  mfiles := h.mfiles.ext hx (hn _ (.inr (.inl rfl)))
  mbase := h.mbase.ext hx (hn _ (.inr (.inr (.inl rfl))))
  ochg := h.ochg.ext hx (fun b hb => hn b (.inr (.inr (.inr (.inl hb)))))
  osyn := h.osyn.ext hx (fun b hb => hn b (.inr (.inr (.inr (.inr (.inl hb))))))
  file f hf := (h.file f hf).ext hx (hn _ (.inr (.inr (.inr (.inr (.inr ⟨f, hf, .inl rfl⟩)))))) (fun b hb => hn b (.inr (.inr (.inr (.inr (.inr ⟨f, hf, .inr hb⟩)))))) hu
  apart := h.apart
  ok := h.ok
theorem DiskIs.below (h : DiskIs base w D A) (hx : Below w.heap.size w w') : DiskIs base w' D A :=
  h.ext (Ext.of_below (S := fun _ => False) hx) (fun _ _ => id) (fun _ _ _ => id)
theorem DiskIs.drew (h : DiskIs base w D A) : DiskIs base w.drew D A := h.below (Below.refl _ _).drew
theorem DiskIs.alloc (h : DiskIs base w D A) (o : Obj) : DiskIs base (w.alloc o) D A := h.below ((Below.refl _ _).alloc (Nat.le_refl _) o)

/-- The disk's own block is turned, with its lists; the map of files may be another. -/
theorem DiskIs.head (h : DiskIs base w D A) (hx : Ext S w w') (hS : ∀ b, b < w.heap.size → S b → b = D.pb ∨ D.vc.ownBlock = some b ∨ D.vs.ownBlock = some b) {vc vs : Value} {chg : List Chg} {syn : List Int} {now : Int}
    (hb : w'.heap[D.pb]? = some (.cells #[.map (some D.mf), .map (some D.mb), vc, vs, .int .i64 now] 62 (0, 0)))
    (hc : Own Chg.cells 4 92 base w' vc chg) (hs : Own intc 1 3 base w' vs syn) (hok : ∀ c ∈ chg, ∀ f, c.f = some f → f ∈ A.ids ∧ c.name.size ≤ 8) :
    DiskIs base w' { D with vc := vc, vs := vs } { A with chg := chg, syn := syn, now := now } := by
  have key : ∀ b T, tagOf w b = T → T ≠ some 62 → T ≠ some 92 → T ≠ some 3 → b < w.heap.size → ¬ S b := by
    intro b T ht h1 h2 h3 hl hsb
    rcases hS b hl hsb with rfl | e | e
    · exact h1 (ht.symm.trans h.tpb)
    · exact h2 (ht.symm.trans (tag_own h.ochg e))
    · exact h3 (ht.symm.trans (tag_own h.osyn e))
  exact {
    blk := hb
    lo := h.lo
    lof := h.lof
    lob := h.lob
    ne := h.ne
    mfiles := h.mfiles.ext hx (key _ _ (tag_map h.mfiles) (by decide) (by decide) (by decide) h.lmf)
    mbase := h.mbase.ext hx (key _ _ (tag_map h.mbase) (by decide) (by decide) (by decide) h.lmb)
    ochg := hc
    osyn := hs
    file := fun f hf => (h.file f hf).ext hx (key _ _ (h.file f hf).tag (by decide) (by decide) (by decide) (h.file f hf).lt)
      (fun b hb => key _ _ ((h.file f hf).row hb).1 (by decide) (by decide) (by decide) (tag_lt ((h.file f hf).row hb).1)) (fun b hb ht => key _ _ ht (by decide) (by decide) (by decide) (tag_lt ht))
    apart := h.apart
    ok := ⟨h.ok.inf, h.ok.inb, hok, h.ok.sz⟩ }

/-- The map of files is turned. -/
theorem DiskIs.names (h : DiskIs base w D A) (hx : Ext (· = D.mf) w w') {files : List (ByteArray × Nat)} (hm : MapIs Value.string fptr w' D.mf files) (hok : ∀ n f, (n, f) ∈ files → f ∈ A.ids ∧ n.size ≤ 8) :
    DiskIs base w' D { A with files := files } := by
  have key : ∀ b T, tagOf w b = some T → ¬ b = D.mf := fun b T ht => tag_ne ht (tag_map h.mfiles) (by simp)
  exact {
    blk := (hx.block _ h.lpb (key _ _ h.tpb)).trans h.blk
    lo := h.lo
    lof := h.lof
    lob := h.lob
    ne := h.ne
    mfiles := hm
    mbase := h.mbase.ext hx (fun e => h.ne e.symm)
    ochg := h.ochg.ext hx (fun b hb => key _ _ (tag_own h.ochg hb))
    osyn := h.osyn.ext hx (fun b hb => key _ _ (tag_own h.osyn hb))
    file := fun f hf => (h.file f hf).ext hx (key _ _ (h.file f hf).tag) (fun b hb => key _ _ ((h.file f hf).row hb).1) (fun b hb ht => key _ _ ht)
    apart := h.apart
    ok := ⟨hok, h.ok.inb, h.ok.inc, h.ok.sz⟩ }

/-- One file is turned. -/
theorem DiskIs.turn (h : DiskIs base w D A) (hx : Ext S w w') {f : Nat} (hf : f ∈ A.ids) (hS : ∀ b, b < w.heap.size → S b → b = f ∨ (D.rv f).ownBlock = some b) {v : Value} {ps : List PcA} (hi : FileIs base w' f v ps)
    (hv : ∀ b, v.ownBlock = some b → (D.rv f).ownBlock = some b ∨ w.heap.size ≤ b) (hz : sizeP ps ≤ 1048576) :
    DiskIs base w' { D with rv := fun g => if g = f then v else D.rv g } { A with fs := fun g => if g = f then ps else A.fs g } := by
  have key : ∀ b T, tagOf w b = T → T ≠ some 74 → T ≠ some 76 → b < w.heap.size → ¬ S b := by
    intro b T ht h1 h2 hl hsb
    rcases hS b hl hsb with rfl | e
    · exact h1 (ht.symm.trans (h.file b hf).tag)
    · exact h2 (ht.symm.trans ((h.file f hf).row e).1)
  refine {
    blk := (hx.block _ h.lpb (key _ _ h.tpb (by decide) (by decide) h.lpb)).trans h.blk
    lo := h.lo
    lof := h.lof
    lob := h.lob
    ne := h.ne
    mfiles := h.mfiles.ext hx (key _ _ (tag_map h.mfiles) (by decide) (by decide) h.lmf)
    mbase := h.mbase.ext hx (key _ _ (tag_map h.mbase) (by decide) (by decide) h.lmb)
    ochg := h.ochg.ext hx (fun b hb => key _ _ (tag_own h.ochg hb) (by decide) (by decide) (h.ochg.blk b hb).2)
    osyn := h.osyn.ext hx (fun b hb => key _ _ (tag_own h.osyn hb) (by decide) (by decide) (h.osyn.blk b hb).2)
    file := fun g hg => ?_
    apart := fun g k hg hk hne b hb hb' => ?_
    ok := ⟨h.ok.inf, h.ok.inb, h.ok.inc, fun g hg => ?_⟩ }
  · dsimp only
    split
    · rename_i e; subst e; exact hi
    · rename_i e
      refine (h.file g hg).ext hx (fun hs => ?_) (fun b hb hs => ?_) (fun b hb ht => key _ _ ht (by decide) (by decide) (tag_lt ht))
      · rcases hS g (h.file g hg).lt hs with e2 | e2
        · exact e e2
        · exact tag_ne (h.file g hg).tag ((h.file f hf).row e2).1 (by decide) rfl
      · rcases hS b (tag_lt ((h.file g hg).row hb).1) hs with rfl | e2
        · exact tag_ne ((h.file g hg).row hb).1 (h.file b hf).tag (by decide) rfl
        · exact h.apart g f hg hf e b hb e2
  · dsimp only at hb hb'
    have old : ∀ g, g ∈ A.ids → g ≠ f → ∀ b, (D.rv g).ownBlock = some b → v.ownBlock = some b → False := fun g hg hgf b hb hvb => by
      rcases hv b hvb with e | e
      · exact h.apart g f hg hf hgf b hb e
      · have := tag_lt ((h.file g hg).row hb).1; omega
    split at hb
    · rename_i e1
      rw [if_neg (fun e2 => hne (e1.trans e2.symm))] at hb'
      exact old k hk (fun e2 => hne (e1.trans e2.symm)) b hb' hb
    · rename_i e1
      split at hb'
      · exact old g hg e1 b hb hb'
      · exact h.apart g k hg hk hne b hb hb'
  · dsimp only
    split
    · exact hz
    · exact h.ok.sz g hg

/-- A new file. -/
theorem DiskIs.born (h : DiskIs base w D A) (hl : base ≤ w.heap.size) : DiskIs base (w.alloc (.cells #[.slice none 0 0, .int .i64 0] 74)) { D with rv := fun g => if g = w.heap.size then .slice none 0 0 else D.rv g } { A with ids := w.heap.size :: A.ids, fs := fun g => if g = w.heap.size then [] else A.fs g } := by
  have h2 := h.alloc (.cells #[.slice none 0 0, .int .i64 0] 74)
  have hn : ∀ f ∈ A.ids, f ≠ w.heap.size := fun f hf => Nat.ne_of_lt (h.file f hf).lt
  refine { h2 with file := fun g hg => ?_, apart := fun g k hg hk hne b hb hb' => ?_, ok := ?_ }
  · rcases List.mem_cons.1 hg with rfl | hg
    · dsimp only
      rw [if_pos rfl, if_pos rfl]
      exact ⟨hl, (MapKept.heap_alloc w _).1, [], Own.nil, rfl, fun i q p hq => by simp at hq⟩
    · dsimp only
      rw [if_neg (hn g hg), if_neg (hn g hg)]
      exact h2.file g hg
  · dsimp only at hb hb'
    rcases List.mem_cons.1 hg with rfl | hg
    · rw [if_pos rfl] at hb; cases hb
    · rcases List.mem_cons.1 hk with rfl | hk
      · rw [if_pos rfl] at hb'; cases hb'
      · rw [if_neg (hn g hg)] at hb
        rw [if_neg (hn k hk)] at hb'
        exact h.apart g k hg hk hne b hb hb'
  · refine ⟨fun n f hf => ⟨List.mem_cons_of_mem _ (h.ok.inf n f hf).1, (h.ok.inf n f hf).2⟩, fun n f hf => ⟨List.mem_cons_of_mem _ (h.ok.inb n f hf).1, (h.ok.inb n f hf).2⟩, fun c hc f hf => ⟨List.mem_cons_of_mem _ (h.ok.inc c hc f hf).1, (h.ok.inc c hc f hf).2⟩, fun g hg => ?_⟩
    rcases List.mem_cons.1 hg with rfl | hg
    · dsimp only
      rw [if_pos rfl]
      simp [sizeP]
    · dsimp only
      rw [if_neg (hn g hg)]
      exact h.ok.sz g hg
end

/-- A call has turned a disk: its own blocks alone, and new ones. -/
structure Turned (base : Nat) (w : World) (D : DSh) (A : DiskA) (w' : World) (D' : DSh) (A' : DiskA) : Prop where
  is_ : DiskIs base w' D' A'
  pb : D'.pb = D.pb
  ext : Ext (Foot D A) w w'
  foot : ∀ b, Foot D' A' b → Foot D A b ∨ w.heap.size ≤ b
theorem Turned.refl {base : Nat} {w : World} {D : DSh} {A : DiskA} (h : DiskIs base w D A) : Turned base w D A w D A := ⟨h, rfl, Ext.refl _ _, fun _ hb => .inl hb⟩
theorem Turned.trans {base : Nat} {w1 w2 w3 : World} {D1 D2 D3 : DSh} {A1 A2 A3 : DiskA} (h : Turned base w1 D1 A1 w2 D2 A2) (k : Turned base w2 D2 A2 w3 D3 A3) : Turned base w1 D1 A1 w3 D3 A3 where
  is_ := k.is_
  pb := k.pb.trans h.pb
  ext := h.ext.andThen k.ext (fun b hb hf => (h.foot b hf).resolve_right (by omega))
  foot b hb := by
    rcases k.foot b hb with e | e
    · exact h.foot b e
    · exact .inr (Nat.le_trans h.ext.size e)
theorem Turned.below {base : Nat} {w w' : World} {D : DSh} {A : DiskA} (h : DiskIs base w D A) (hb : Below w.heap.size w w') : Turned base w D A w' D A := ⟨h.below hb, rfl, Ext.of_below hb, fun _ hb => .inl hb⟩
/-- .. what it says of a frame. -/
theorem Turned.frame {base B : Nat} {w0 w w' : World} {D D' : DSh} {A A' : DiskA} (h : Turned base w D A w' D' A') (hi : DiskIs base w D A) (hb : Below B w0 w) (hB : B ≤ base) (hs : B ≤ w.heap.size) : Below B w0 w' :=
  Ext.new hb h.ext (fun i hi' _ hp => by have := (hi.foot hp).1; omega) hs

end Go.Proofs.Ytmlaojfhmaamcaa
