/- The program's disk and the document's stay alike, act by act. -/
import Derived.Test.YtmlaojfhmaamcaaPcs06
namespace Go.Proofs.Ytmlaojfhmaamcaa
open Go.RowKit Go.Deep
set_option linter.unusedSimpArgs false
set_option linter.unusedVariables false

/-- Both disks alike: F are the program's files by their numbers, pre what counts for nothing, J what was done since. -/
structure Sim (F : List Nat) (A : DiskA) (R : RefA) (pre : List StepA) (J : List (StepA × Option Chg)) : Prop where
  L : R.L = pre ++ J.map (·.1)
  bse : R.bse = pre.length
  now : A.now = J.length
  chg : A.chg = J.filterMap (·.2)
  syn : A.syn = synJ J
  timed : Timed J
  born : R.born = F.length
  nd : F.Nodup
  ids : ∀ b ∈ F, b ∈ A.ids
  bas : NRel F A.base (nowR pre)
  evs : EvsOk F (nowR pre) J
  pcs : ∀ f b, fid F f = some b → A.fs b = pcsA pre.length f R.L
  fold : A.files = A.chg.foldl (fun l c => applyC c l) A.base
  okL : ∀ s ∈ R.L, s.kind = 2 ∨ s.kind = 5 → s.file < F.length
theorem nrel0 : NRel [] [] [] := ⟨fun x hx => (by cases hx), fun n b hb => (by cases hb), List.nodup_nil, List.nodup_nil, List.nodup_nil, fun x hx => (by cases hx)⟩
theorem sim0 : Sim [] disk0 ⟨[], 0, 0⟩ [] [] where
  L := rfl
  bse := rfl
  now := rfl
  chg := rfl
  syn := rfl
  timed := fun i s c h => by simp at h
  born := rfl
  nd := List.nodup_nil
  ids := fun b hb => by cases hb
  bas := nrel0
  evs := by simp [EvsOk, nowR]
  pcs := fun f b hf => by simp [fid] at hf
  fold := rfl
  okL := fun s hs => by cases hs

theorem fid_ge {F : List Nat} {f : Int} (h : (F.length : Int) ≤ f) : fid F f = none := by
  unfold fid
  rw [if_pos (by omega), List.getElem?_eq_none (by omega)]
theorem fid_snoc {F : List Nat} {f : Int} {b c : Nat} (h : fid (F ++ [b]) f = some c) : fid F f = some c ∨ (f = F.length ∧ c = b) := by
  unfold fid at *
  split at h
  · rename_i h0
    by_cases hl : f.toNat < F.length
    · rw [List.getElem?_append_left hl] at h
      left; rw [if_pos h0]; exact h
    · right
      have h1 := (List.getElem?_eq_some_iff.1 h).1
      rw [List.length_append] at h1
      simp at h1
      have h2 : f.toNat = F.length := by omega
      rw [h2] at h
      simp at h
      exact ⟨by omega, h.symm⟩
  · cases h
theorem pcs_none (bse : Nat) (f : Int) : ∀ L : List StepA, (∀ s ∈ L, s.kind = 2 ∨ s.kind = 5 → s.file ≠ f) → pcsA bse f L = [] := by
  refine snoc_ind (fun _ => rfl) (fun L s ih h => ?_)
  rw [pcs_snoc, ih (fun t ht => h t (List.mem_append_left _ ht))]
  have := h s (by simp)
  unfold pcStep
  split
  · rename_i e; exact absurd e.2 (this (.inl e.1))
  · split <;> rfl

section
variable {F : List Nat} {A A' : DiskA} {R : RefA} {pre : List StepA} {J : List (StepA × Option Chg)}
/-- The names are alike. -/
theorem Sim.names (h : Sim F A R pre J) : NRel F A.files (nowR R.L) := by
  have := h.bas.all h.evs
  rw [← h.chg, ← h.fold] at this
  rw [h.L]
  unfold nowR at this ⊢
  rw [List.foldl_append]
  exact this
theorem Sim.len8 (h : Sim F A R pre J) : (nowR R.L).length ≤ 8 := by
  have := h.evs.len
  rw [h.L]
  unfold nowR at this ⊢
  rw [List.foldl_append]
  exact this
theorem Sim.nowJ (h : Sim F A R pre J) : (J.map (·.1)).foldl namedR (nowR pre) = nowR R.L := by
  rw [h.L]
  unfold nowR
  rw [List.foldl_append]
/-- One step more, on both: no new file. -/
theorem Sim.push (h : Sim F A R pre J) {s : StepA} {oc : Option Chg} (hn : A'.now = A.now + 1) (hc : A'.chg = A.chg ++ oc.toList) (hy : A'.syn = A.syn ++ if s.kind = 6 then [A.now + 1] else []) (hat : ∀ c, oc = some c → c.at_ = A.now + 1)
    (hid : ∀ b ∈ F, b ∈ A'.ids) (hb : A'.base = A.base) (he : EvOk F (nowR R.L) s oc) (hl : (namedR (nowR R.L) s).length ≤ 8) (hp : ∀ f b, fid F f = some b → A'.fs b = pcStep f pre.length R.L.length s (A.fs b)) (hf : A'.files = applyO oc A.files)
    (hok : s.kind = 2 ∨ s.kind = 5 → s.file < F.length) : Sim F A' (pushR s R) pre (J ++ [(s, oc)]) where
  L := by simp [pushR, h.L]
  bse := h.bse
  now := by rw [hn, h.now]; simp
  chg := by rw [hc, h.chg, List.filterMap_append]; cases oc <;> simp
  syn := by rw [hy, h.syn, synJ_snoc, h.now]
  timed := h.timed.snoc (fun c hc => by rw [hat c hc, h.now])
  born := h.born
  nd := h.nd
  ids := hid
  bas := by rw [hb]; exact h.bas
  evs := h.evs.snoc (by rw [h.nowJ]; exact he) (by rw [h.nowJ]; exact hl)
  pcs f b hfb := by
    rw [hp f b hfb, h.pcs f b hfb]
    simp only [pushR]
    rw [pcs_snoc]
  fold := by
    rw [hf, hc, hb, List.foldl_append, ← h.fold]
    cases oc <;> rfl
  okL t ht := by
    simp only [pushR] at ht
    rcases List.mem_append.1 ht with ht | ht
    · exact h.okL t ht
    · simp at ht; subst ht; exact hok
/-- A new file is born. -/
theorem Sim.bornS (h : Sim F A R pre J) {fb : Nat} (hfb : fb ∉ A.ids) : Sim (F ++ [fb]) (bornA fb A) { R with born := R.born + 1 } pre J where
  L := h.L
  bse := h.bse
  now := h.now
  chg := h.chg
  syn := h.syn
  timed := h.timed
  born := by simp [h.born]
  nd := by
    rw [List.nodup_append]
    exact ⟨h.nd, by simp, fun a ha b hb => by simp at hb; subst hb; exact fun e => hfb (by rw [← e]; exact h.ids a ha)⟩
  ids b hb := by
    rcases List.mem_append.1 hb with hb | hb
    · exact List.mem_cons_of_mem _ (h.ids b hb)
    · simp at hb; subst hb; exact List.mem_cons_self
  bas := h.bas.mono fb
  evs := h.evs.mono fb
  pcs f b hb := by
    simp only [bornA]
    rcases fid_snoc hb with hb | ⟨rfl, rfl⟩
    · have : b ≠ fb := fun e => hfb (by rw [← e]; exact h.ids b (fid_mem hb))
      rw [if_neg this]
      exact h.pcs f b hb
    · rw [if_pos rfl, pcs_none]
      intro s hs hk
      have := h.okL s hs hk
      omega
  fold := h.fold
  okL s hs hk := by have := h.okL s hs hk; rw [List.length_append]; simp; omega

theorem aget_find (h : Sim F A R pre J) (n : ByteArray) : (aget A.files n = none ∧ findR (nowR R.L) n = -1) ∨ ∃ b, aget A.files n = some b ∧ fid F (findR (nowR R.L) n) = some b ∧ 0 ≤ findR (nowR R.L) n ∧ ∃ x ∈ nowR R.L, x.name = n ∧ x.file = findR (nowR R.L) n := by
  cases hb : aget A.files n with
  | none => exact .inl ⟨rfl, h.names.find_no hb⟩
  | some b => exact .inr ⟨b, rfl, h.names.find hb⟩
theorem Sim.now1 (h : Sim F A R pre J) : A.now + 1 = cameT pre.length R.L.length ∧ A.now + 1 = safeT pre.length R.L.length := by
  have hl : R.L.length = pre.length + J.length := by rw [h.L]; simp
  have := h.now
  unfold cameT safeT
  rw [if_neg (by omega), if_neg (by omega)]
  omega
theorem filter_lt {l : List Nm} {x : Nm} {p : Nm → Bool} (hx : x ∈ l) (hp : p x = false) : (l.filter p).length + 1 ≤ l.length := by
  induction l with
  | nil => cases hx
  | cons y l ih =>
    rcases List.mem_cons.1 hx with rfl | hx
    · rw [List.filter_cons_of_neg (by simp [hp])]
      have := List.length_filter_le p l
      simp; omega
    · have := ih hx
      by_cases hy : p y = true
      · rw [List.filter_cons_of_pos hy]; simp; omega
      · rw [List.filter_cons_of_neg hy]; simp; omega
theorem size_bytes {b : Nat} {f : Int} (h : Sim F A R pre J) (hb : fid F f = some b) : (heldR R.L f).length = sizeP (A.fs b) := by
  rw [heldR_pcs pre.length, ← h.pcs f b hb, bytesP_len]

/-- An act leaves them alike, and is answered alike. -/
theorem Sim.act (h : Sim F A R pre J) (hi : A.Inj) {x : OpA} {c : Int} (ha : ActA x A c A') : c = ractC x R ∧ ∃ F' J', Sim F' A' (ractR x R) pre J' := by
  have hnow := h.now1
  unfold ActA at ha
  unfold ractC ractR
  by_cases k1 : x.kind = 1
  · rw [if_pos k1] at ha ⊢
    rw [if_pos k1]
    obtain ⟨hc, ha⟩ := ha
    have hcode : rmakeCode R x.name = makeCode A x.name := by
      unfold rmakeCode makeCode
      split
      · rfl
      · have hlen := h.names.len
        have h8 := h.len8
        rcases aget_find h x.name with ⟨e1, e2⟩ | ⟨b, e1, e2, e3, _⟩
        · rw [e1, e2, if_neg (show ¬ (0 : Int) ≤ -1 by omega), if_neg (show ¬ (none : Option Nat).isSome = true by simp)]
          by_cases h9 : A.files.length = 8
          · rw [if_pos h9, if_pos (show 8 ≤ (nowR R.L).length by omega)]
          · rw [if_neg h9, if_neg (show ¬ 8 ≤ (nowR R.L).length by omega)]
        · rw [e1, if_pos e3, if_pos (by rfl)]
    refine ⟨hc.trans hcode.symm, ?_⟩
    unfold rmakeR
    rcases ha with ⟨hne, rfl⟩ | ⟨h0, fb, hfb, rfl⟩
    · rw [if_neg (by rw [hcode, ← hc]; exact hne)]
      exact ⟨F, J, h⟩
    · rw [if_pos (by rw [hcode, ← hc]; exact h0)]
      have hb := h.bornS hfb
      rw [h0] at hc
      have hr : rightN x.name = true ∧ aget A.files x.name = none ∧ A.files.length ≠ 8 := by
        unfold makeCode at hc
        split at hc
        · cases hc
        · rename_i hr
          split at hc
          · cases hc
          · rename_i hg
            split at hc
            · cases hc
            · rename_i h8
              refine ⟨by simpa using hr, ?_, h8⟩
              cases hgg : aget A.files x.name with
              | none => rfl
              | some _ => rw [hgg] at hg; simp at hg
      have hlen := h.names.len
      have h8 := h.len8
      have hnone := hr.2.1
      have hnx : ∀ y ∈ nowR R.L, y.name ≠ x.name := fun y hy e => by
        obtain ⟨b, _, e2⟩ := h.names.t2 y hy
        rw [e, hnone] at e2; cases e2
      have hnf : ∀ y ∈ nowR R.L, y.file ≠ R.born := fun y hy e => by
        obtain ⟨b, e1, _⟩ := h.names.t2 y hy
        have := fid_lt e1
        have := h.born
        omega
      have hpush := hb.push (A' := stepA ⟨0, x.name, ⟨#[]⟩, some fb⟩ (bornA fb A)) (s := ⟨1, R.born, x.name, []⟩) (oc := some ⟨A.now + 1, x.name, ⟨#[]⟩, some fb⟩) rfl rfl (by simp [stepA, bornA]) (fun c hc => by cases hc; rfl) (fun b hbF => hb.ids b hbF) rfl
        (.inl ⟨rfl, fb, _, rfl, by dsimp only; rw [h.born]; exact fid_last F fb, hnf, hnx, hr.1⟩)
        (by have := namedR_len (nowR R.L) ⟨1, R.born, x.name, []⟩; dsimp only; omega)
        (fun f b hfb => by simp [pcStep, stepA, bornA])
        rfl (by simp)
      exact ⟨_, _, hpush⟩
  rw [if_neg k1] at ha
  rw [if_neg k1, if_neg k1]
  by_cases k2 : x.kind = 2
  · rw [if_pos k2] at ha
    rw [if_pos k2, if_pos k2]
    unfold rappendR rappendCode
    rcases ha with ⟨e, rfl, rfl⟩ | ⟨b, e, hs, rfl, rfl⟩ | ⟨b, e, hs, rfl, rfl⟩
    · rcases aget_find h x.name with ⟨_, e2⟩ | ⟨b, e1, _⟩
      · rw [e2, if_pos (show (-1 : Int) < 0 by omega), if_neg (by decide)]
        exact ⟨rfl, F, J, h⟩
      · rw [e] at e1; cases e1
    · rcases aget_find h x.name with ⟨e1, _⟩ | ⟨b2, e1, e2, e3, _⟩
      · rw [e] at e1; cases e1
      · rw [e] at e1; cases e1
        have hsz := size_bytes h e2
        rw [if_neg (show ¬ findR (nowR R.L) x.name < 0 by omega), if_pos (show 1048576 < (heldR R.L (findR (nowR R.L) x.name)).length + x.bs.length by omega), if_neg (by decide)]
        exact ⟨rfl, F, J, h⟩
    · rcases aget_find h x.name with ⟨e1, _⟩ | ⟨b2, e1, e2, e3, _⟩
      · rw [e] at e1; cases e1
      · rw [e] at e1; cases e1
        have hsz := size_bytes h e2
        rw [if_neg (show ¬ findR (nowR R.L) x.name < 0 by omega), if_neg (show ¬ 1048576 < (heldR R.L (findR (nowR R.L) x.name)).length + x.bs.length by omega), if_pos rfl]
        refine ⟨rfl, F, J ++ [(⟨2, findR (nowR R.L) x.name, ⟨#[]⟩, x.bs⟩, none)], ?_⟩
        refine h.push (s := ⟨2, findR (nowR R.L) x.name, ⟨#[]⟩, x.bs⟩) (oc := none) rfl (by simp [appA]) (by simp [appA]) (fun c hc => by cases hc) h.ids rfl (.inr (.inr (.inr ⟨by simp, by simp, by simp, rfl⟩))) (by simp only [namedR]; simpa using h.len8) (fun f c hfc => ?_) rfl (fun _ => fid_lt e2)
        simp only [appA, pcStep]
        by_cases ec : c = b
        · subst ec
          have := fid_inj h.nd hfc e2
          rw [if_pos rfl, if_pos ⟨trivial, this.symm⟩, hnow.1]
        · rw [if_neg ec, if_neg (fun e4 => ec (by
            have := e4.2; rw [this, hfc] at e2; exact Option.some.inj e2)), if_neg (by simp)]
  rw [if_neg k2] at ha
  rw [if_neg k2, if_neg k2]
  by_cases k3 : x.kind = 3
  · rw [if_pos k3] at ha
    rw [if_pos k3, if_pos k3]
    unfold rsyncR rsyncCode
    rcases ha with ⟨e, rfl, rfl⟩ | ⟨b, e, rfl, rfl⟩
    · rcases aget_find h x.name with ⟨_, e2⟩ | ⟨b, e1, _⟩
      · simp only [e2, if_pos (show (-1 : Int) < 0 by omega)]
        exact ⟨trivial, F, J, h⟩
      · rw [e] at e1; cases e1
    · rcases aget_find h x.name with ⟨e1, _⟩ | ⟨b2, e1, e2, e3, _⟩
      · rw [e] at e1; cases e1
      · rw [e] at e1; cases e1
        simp only [if_neg (show ¬ findR (nowR R.L) x.name < 0 by omega)]
        refine ⟨trivial, F, J ++ [(⟨5, findR (nowR R.L) x.name, ⟨#[]⟩, []⟩, none)], ?_⟩
        refine h.push (s := ⟨5, findR (nowR R.L) x.name, ⟨#[]⟩, []⟩) (oc := none) rfl (by simp [syncA]) (by simp [syncA]) (fun c hc => by cases hc) h.ids rfl (.inr (.inr (.inr ⟨by simp, by simp, by simp, rfl⟩))) (by simp only [namedR]; simpa using h.len8) (fun f c hfc => ?_) rfl (fun _ => fid_lt e2)
        simp only [syncA, pcStep]
        rw [if_neg (show ¬ ((5 : Int) = 2 ∧ findR (nowR R.L) x.name = f) by simp)]
        by_cases ec : c = b
        · subst ec
          have := fid_inj h.nd hfc e2
          rw [if_pos rfl, if_pos ⟨trivial, this.symm⟩, hnow.2]
        · rw [if_neg ec, if_neg (fun e4 => ec (by
            have := e4.2; rw [this, hfc] at e2; exact Option.some.inj e2))]
  rw [if_neg k3] at ha
  rw [if_neg k3, if_neg k3]
  by_cases k4 : x.kind = 4
  · rw [if_pos k4] at ha
    rw [if_pos k4, if_pos k4]
    unfold rrenameR rrenameCode
    rcases ha with ⟨hr, rfl, rfl⟩ | ⟨hr, e, rfl, rfl⟩ | ⟨b, hr, e, rfl, rfl⟩
    · simp only [if_pos hr]
      exact ⟨trivial, F, J, h⟩
    · simp only [hr, Bool.true_eq_false, if_false]
      rcases aget_find h x.name with ⟨_, e2⟩ | ⟨b, e1, _⟩
      · simp only [e2, if_pos (show (-1 : Int) < 0 by omega)]
        exact ⟨trivial, F, J, h⟩
      · rw [e] at e1; cases e1
    · simp only [hr, Bool.true_eq_false, if_false]
      rcases aget_find h x.name with ⟨e1, _⟩ | ⟨b2, e1, e2, e3, y, hy, hy1, hy2⟩
      · rw [e] at e1; cases e1
      · rw [e] at e1; cases e1
        simp only [if_neg (show ¬ findR (nowR R.L) x.name < 0 by omega)]
        refine ⟨trivial, F, J ++ [(⟨3, findR (nowR R.L) x.name, x.s, []⟩, some ⟨A.now + 1, x.s, x.name, some b⟩)], ?_⟩
        refine h.push (s := ⟨3, findR (nowR R.L) x.name, x.s, []⟩) (oc := some ⟨A.now + 1, x.s, x.name, some b⟩) rfl rfl (by simp [stepA]) (fun c hc => by cases hc; rfl) h.ids rfl (.inr (.inl ⟨rfl, b, _, _, rfl, e2, ⟨y, hy, hy1, hy2⟩, hr⟩)) ?_ (fun f c hfc => by simp [pcStep, stepA]) rfl (by simp)
        unfold namedR
        rw [if_pos (.inr rfl), List.length_append]
        have := filter_lt (p := fun z => decide (z.file ≠ findR (nowR R.L) x.name) && decide (z.name ≠ x.s)) hy (by simp [hy2])
        have := h.len8
        simp only [List.length_cons, List.length_nil]
        omega
  rw [if_neg k4] at ha
  rw [if_neg k4, if_neg k4]
  by_cases k5 : x.kind = 5
  · rw [if_pos k5] at ha
    rw [if_pos k5, if_pos k5]
    unfold rremoveR rremoveCode
    rcases ha with ⟨e, rfl, rfl⟩ | ⟨b, e, rfl, rfl⟩
    · rcases aget_find h x.name with ⟨_, e2⟩ | ⟨b, e1, _⟩
      · simp only [e2, if_pos (show (-1 : Int) < 0 by omega)]
        exact ⟨trivial, F, J, h⟩
      · rw [e] at e1; cases e1
    · rcases aget_find h x.name with ⟨e1, _⟩ | ⟨b2, e1, e2, e3, _⟩
      · rw [e] at e1; cases e1
      · rw [e] at e1; cases e1
        simp only [if_neg (show ¬ findR (nowR R.L) x.name < 0 by omega)]
        refine ⟨trivial, F, J ++ [(⟨4, findR (nowR R.L) x.name, x.name, []⟩, some ⟨A.now + 1, ⟨#[]⟩, x.name, none⟩)], ?_⟩
        refine h.push (s := ⟨4, findR (nowR R.L) x.name, x.name, []⟩) (oc := some ⟨A.now + 1, ⟨#[]⟩, x.name, none⟩) rfl rfl (by simp [stepA]) (fun c hc => by cases hc; rfl) h.ids rfl (.inr (.inr (.inl ⟨rfl, _, rfl⟩))) ?_ (fun f c hfc => by simp [pcStep, stepA]) rfl (by simp)
        have h8 := h.len8
        unfold namedR withoutR
        rw [if_neg (by simp), if_pos rfl]
        exact Nat.le_trans (List.length_filter_le _ _) h8
  rw [if_neg k5] at ha
  rw [if_neg k5, if_neg k5]
  by_cases k6 : x.kind = 6
  · rw [if_pos k6] at ha
    rw [if_pos k6]
    obtain ⟨rfl, rfl⟩ := ha
    refine ⟨rfl, F, J ++ [(⟨6, 0, ⟨#[]⟩, []⟩, none)], ?_⟩
    exact h.push (s := ⟨6, 0, ⟨#[]⟩, []⟩) (oc := none) rfl (by simp [synA]) (by simp [synA]) (fun c hc => by cases hc) h.ids rfl (.inr (.inr (.inr ⟨by simp, by simp, by simp, rfl⟩))) (by simp only [namedR]; simpa using h.len8) (fun f c hfc => by simp [pcStep, synA]) rfl (by simp)
  · rw [if_neg k6] at ha
    rw [if_neg k6]
    obtain ⟨rfl, rfl⟩ := ha
    exact ⟨rfl, F, J, h⟩
end

/-- What alike disks tell. -/
theorem Sim.tells {F : List Nat} {A : DiskA} {R : RefA} {pre : List StepA} {J : List (StepA × Option Chg)} (h : Sim F A R pre J) : A.now = R.L.length - R.bse ∧ namesA A = sortN ((nowR R.L).map (·.name)) ∧ ∀ n b, aget A.files n = some b → 0 ≤ findR (nowR R.L) n ∧ bytesP (A.fs b) = heldR R.L (findR (nowR R.L) n) ∧ pendP (A.fs b) = pendR R.L (findR (nowR R.L) n) := by
  refine ⟨?_, sortN_perm h.names.keys, fun n b hb => ?_⟩
  · rw [h.now, h.bse, h.L]; simp
    omega
  · obtain ⟨e1, e2, _⟩ := h.names.find hb
    exact ⟨e2, by rw [heldR_pcs pre.length, h.pcs _ _ e1], by rw [pendR_pcs pre.length, h.pcs _ _ e1]⟩

end Go.Proofs.Ytmlaojfhmaamcaa
