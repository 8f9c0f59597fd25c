/- OplogAnew, part 1 of what the proof leans on (made short by a program). -/
import Derived.WalkSpells
import Derived.WalkLawsBesides
import Derived.Lib.Hide
import Derived.Test.YtgmdimbiipemhaaGreatDoorRows
import Derived.Lib.SmallJoins
import Derived.BigQuiet
import Derived.Deep.RegionHeld3
import Derived.Deep.CutBlock
import Derived.Deep.DeepCutAuto
import Derived.Deep.RegionLaw
import Derived.Lib.AppendZeros
set_option linter.unusedSimpArgs false
set_option linter.unusedVariables false
set_option linter.unusedSectionVars false
set_option maxRecDepth 20000
set_option maxHeartbeats 30000000
namespace Go.Proofs.YtgmdimbiipemhaaGreatDoor
open Go.RowKit
theorem Jh {p:Prop} (h:p):Hid p:=Lib.hid h
theorem Je {α:Sort _} (a:α):∃ x,a=x:=⟨_,rfl⟩
structure Ext (S:Nat→Prop) (w w':World):Prop where
 os:w'.os=w.os
 tape:w'.tape=w.tape
 output:w'.output=w.output
 size:w.heap.size≤w'.heap.size
 block:∀ k,k<w.heap.size→¬ S k→w'.heap[k]?=w.heap[k]?
theorem Ext.refl (S:Nat→Prop) (w:World):Ext S w w:=⟨rfl,rfl,rfl,Nat.le_refl _,fun _ _ _=>rfl⟩
theorem Ext.trans {S:Nat→Prop} {a b c:World} (h:Ext S a b) (k:Ext S b c):Ext S a c :=
 ⟨k.os.trans h.os,k.tape.trans h.tape,k.output.trans h.output,Nat.le_trans h.size k.size,fun i hi hn=>(k.block i (Nat.lt_of_lt_of_le hi h.size) hn).trans (h.block i hi hn)⟩
theorem Ext.mono {S T:Nat→Prop} {w w':World} (h:Ext S w w') (hs:∀ k,k<w.heap.size→S k→T k):Ext T w w' :=
 ⟨h.os,h.tape,h.output,h.size,fun k hk hn=>h.block k hk (fun s=>hn (hs k hk s))⟩
theorem Ext.andThen {S T:Nat→Prop} {a b c:World} (h:Ext S a b) (k:Ext T b c) (hs:∀ i,i<a.heap.size→T i→S i):Ext S a c :=
 ⟨k.os.trans h.os,k.tape.trans h.tape,k.output.trans h.output,Nat.le_trans h.size k.size,fun i hi hn=>(k.block i (Nat.lt_of_lt_of_le hi h.size) (fun t=>hn (hs i hi t))).trans (h.block i hi hn)⟩
theorem Ext.drew {S:Nat→Prop} {a w:World} (h:Ext S a w):Ext S a w.drew:=⟨h.os,h.tape,h.output,h.size,h.block⟩
theorem Ext.alloc {S:Nat→Prop} {a w:World} (h:Ext S a w) (o:Obj):Ext S a (w.alloc o) :=
 h.trans ⟨rfl,rfl,rfl,by simp,fun k hk _=>Below.heap_alloc _ _ _ hk⟩
theorem Ext.setCell {S:Nat→Prop} {a w:World} (h:Ext S a w) {p:Addr} (hp:a.heap.size≤p.block∨S p.block) (u:Value):Ext S a (w.setCell p u) :=
 ⟨h.os,h.tape,h.output,by simpa [World.setCell] using h.size,fun k hk hn=>by
  rw[Below.heap_setCell _ _ _ _ (by intro e;subst e;rcases hp with hp|hp;omega;exact hn hp)];exact h.block k hk hn⟩
theorem Ext.below {w w':World} (h:Ext (fun _=>False) w w'):Below w.heap.size w w':=⟨h.os,h.tape,h.output,h.size,fun k hk=>h.block k hk id⟩
theorem Ext.of_below {S:Nat→Prop} {w w':World} (h:Below w.heap.size w w'):Ext S w w':=⟨h.os,h.tape,h.output,h.size,fun k hk _=>h.block k hk⟩
theorem Ext.cell {S:Nat→Prop} {w w':World} (h:Ext S w w') {p:Addr} (hp:p.block<w.heap.size) (hn:¬ S p.block):w'.cell? p=w.cell? p:=World.cell?_of_block (w:=w) (h.block p.block hp hn)
theorem Ext.frozen {S:Nat→Prop} {w w':World} (h:Ext S w w') {p:Addr} (hp:p.block<w.heap.size) (hn:¬ S p.block):w'.frozen? p=w.frozen? p:=World.frozen?_of_block (w:=w) (h.block p.block hp hn)
theorem Z4S {B:Nat} {w w':World}:Below B w.drew w'↔Below B w w':=⟨fun h=>⟨h.os,h.tape,h.output,h.size,h.block⟩,fun h=>⟨h.os,h.tape,h.output,h.size,h.block⟩⟩
theorem Z5O (w:World):w.drew.heap=w.heap:=rfl
theorem Z6I {S:Nat→Prop} {w w':World}:Ext S w.drew w'↔Ext S w w':=⟨fun h=>⟨h.os,h.tape,h.output,h.size,h.block⟩,fun h=>⟨h.os,h.tape,h.output,h.size,h.block⟩⟩
theorem Ext.new {S:Nat→Prop} {B:Nat} {w a b:World} (h:Below B w a) (k:Ext S a b) (hs:∀ i,i<B→i<a.heap.size→¬ S i) (hB:B≤a.heap.size):Below B w b :=
 ⟨k.os.trans h.os,k.tape.trans h.tape,k.output.trans h.output,Nat.le_trans h.size k.size,fun i hi=>(k.block i (by omega) (hs i hi (by omega))).trans (h.block i hi)⟩
theorem Zq {w:World} {b o:Nat} {v:Value} (h:w.cell? ⟨b,o,none⟩=some v):b<w.heap.size:=by
 simp only[World.cell?] at h
 exact Classical.byContradiction fun hn=>by rw[Array.getElem?_eq_none (by omega)] at h;cases h
theorem Zt {w:World} {b o:Nat} {v:Value} (h:w.cell? ⟨b,o,none⟩=some v) (x:Obj):(w.alloc x).cell? ⟨b,o,none⟩=some v :=
 (World.cell?_alloc_past x b o (Zq h)).trans h
theorem Y9 {W w1:World} (hb:Below W.heap.size W w1) {b o:Nat} {v:Value} (h:W.cell? ⟨b,o,none⟩=some v):w1.cell? ⟨b,o,none⟩=some v :=
 (hb.cell (p:=⟨b,o,none⟩) (Zq h)).trans h
theorem Ext.keep {S:Nat→Prop} {W w1:World} (hb:Ext S W w1) {b o:Nat} {v:Value} (h:W.cell? ⟨b,o,none⟩=some v) (hn:¬ S b):w1.cell? ⟨b,o,none⟩=some v :=
 (hb.cell (p:=⟨b,o,none⟩) (Zq h) hn).trans h
section maps
variable {K V:Type} [DecidableEq K]
def Zb:List (K × V)→K→Option V
 | [],_=>none
 | (k',v) :: r,k=>if k'=k then some v else Zb r k
def Xo:List (K × V)→K→V→List (K × V)
 | [],k,v=>[(k,v)]
 | (k',v') :: r,k,v=>if k'=k then (k',v) :: r else (k',v') :: Xo r k v
def XA:List (K × V)→K→List (K × V)
 | [],_=>[]
 | (k',v') :: r,k=>if k'=k then r else (k',v') :: XA r k
def YA:List (K × V)→K→Option Nat
 | [],_=>none
 | (k',_) :: r,k=>if k'=k then some 0 else (YA r k).map (·+1)
theorem Z5T {l:List (K × V)} {k:K} (h:YA l k=none):Zb l k=none:=by
 induction l with
 | nil=>rfl
 | cons p r ih =>
  obtain ⟨k',v⟩:=p
  simp only[YA] at h
  split at h
  ·cases h
  ·rename_i hne
   simp only[Zb,hne,if_false]
   exact ih (by simpa using h)
theorem TG {l:List (K × V)} {k:K} {i:Nat} (h:YA l k=some i):∃ v,l[i]?=some (k,v)∧Zb l k=some v:=by
 induction l generalizing i with
 | nil=>cases h
 | cons p r ih =>
  obtain ⟨k',v⟩:=p
  simp only[YA] at h
  split at h
  ·rename_i he
   cases h
   exact ⟨v,by simp[he],by simp[Zb,he]⟩
  ·rename_i hne
   cases hi:YA r k with
   | none=>rw[hi] at h;cases h
   | some j =>
    rw[hi] at h
    cases h
    obtain ⟨u,h1,h2⟩:=ih hi
    exact ⟨u,by simpa using h1,by simpa [Zb,hne] using h2⟩
theorem SX {l:List (K × V)} {k:K} {v:V} (h:YA l k=none):Xo l k v=l++[(k,v)]:=by
 induction l with
 | nil=>rfl
 | cons p r ih =>
  obtain ⟨k',v'⟩:=p
  simp only[YA] at h
  split at h
  ·cases h
  ·rename_i hne
   simp only[Xo,hne,if_false,List.cons_append]
   rw[ih (by simpa using h)]
theorem Rg {l:List (K × V)} {k:K} {v:V} {i:Nat} (h:YA l k=some i):Xo l k v=l.set i (k,v):=by
 induction l generalizing i with
 | nil=>cases h
 | cons p r ih =>
  obtain ⟨k',v'⟩:=p
  simp only[YA] at h
  split at h
  ·rename_i he
   cases h
   simp[Xo,he]
  ·rename_i hne
   cases hi:YA r k with
   | none=>rw[hi] at h;cases h
   | some j =>
    rw[hi] at h
    cases h
    simp[Xo,hne,ih hi]
theorem Z1R {l:List (K × V)} {k:K} (h:YA l k=none):XA l k=l:=by
 induction l with
 | nil=>rfl
 | cons p r ih =>
  obtain ⟨k',v'⟩:=p
  simp only[YA] at h
  split at h
  ·cases h
  ·rename_i hne
   simp only[XA,hne,if_false]
   rw[ih (by simpa using h)]
theorem Z1T {l:List (K × V)} {k:K} {i:Nat} (h:YA l k=some i):XA l k=l.eraseIdx i:=by
 induction l generalizing i with
 | nil=>cases h
 | cons p r ih =>
  obtain ⟨k',v'⟩:=p
  simp only[YA] at h
  split at h
  ·rename_i he
   cases h
   simp[XA,he]
  ·rename_i hne
   cases hi:YA r k with
   | none=>rw[hi] at h;cases h
   | some j =>
    rw[hi] at h
    cases h
    simp[XA,hne,ih hi]
theorem TT (l:List (K × V)) (k:K) (v:V):Zb (Xo l k v) k=some v:=by
 induction l with
 | nil=>simp[Xo,Zb]
 | cons p r ih =>
  obtain ⟨k',v'⟩:=p
  by_cases h:k'=k <;> simp[Xo,Zb,h,ih]
theorem QX (l:List (K × V)) {k j:K} (v:V) (h:k≠j):Zb (Xo l k v) j=Zb l j:=by
 induction l with
 | nil=>simp[Xo,Zb,h]
 | cons p r ih =>
  obtain ⟨k',v'⟩:=p
  by_cases h1:k'=k
  ·subst h1;simp[Xo,Zb,h]
  ·simp only[Xo,if_neg h1,Zb,ih]
theorem Z5Y (l:List (K × V)) (k:K) (v:V):∀ x,x∈(Xo l k v).map (·.1)↔x=k∨x∈l.map (·.1):=by
 intro x
 induction l with
 | nil=>simp[Xo]
 | cons p r ih =>
  obtain ⟨k',v'⟩:=p
  by_cases h1:k'=k
  ·subst h1;simp[Xo]
  ·simp only[Xo,h1,if_false,List.map_cons,List.mem_cons,ih]
   constructor
   ·rintro (h|h|h)
    ·exact .inr (.inl h)
    ·exact .inl h
    ·exact .inr (.inr h)
   ·rintro (h|h|h)
    ·exact .inr (.inl h)
    ·exact .inl h
    ·exact .inr (.inr h)
theorem QR (l:List (K × V)) (k:K) (v:V) (h:(l.map (·.1)).Nodup):((Xo l k v).map (·.1)).Nodup:=by
 induction l with
 | nil=>simp[Xo]
 | cons p r ih =>
  obtain ⟨k',v'⟩:=p
  by_cases h1:k'=k
  ·subst h1;simpa [Xo] using h
  ·simp only[Xo,if_neg h1,List.map_cons,List.nodup_cons] at h ⊢
   refine ⟨fun hm=>?_,ih h.2⟩
   rcases (Z5Y r k v k').1 hm with e|e
   ·exact absurd e h1
   ·exact h.1 e
theorem Sn (l:List (K × V)) (k:K):(XA l k).Sublist l:=by
 induction l with
 | nil=>exact List.Sublist.refl _
 | cons p r ih =>
  obtain ⟨k',v'⟩:=p
  by_cases h1:k'=k
  ·simp[XA,h1]
  ·simp only[XA,h1,if_false];exact ih.cons_cons _
theorem SC (l:List (K × V)) (k:K) (h:(l.map (·.1)).Nodup):((XA l k).map (·.1)).Nodup:=List.Sublist.nodup ((Sn l k).map _) h
theorem Ur (l:List (K × V)) (k:K):Zb l k=none↔k∉l.map (·.1):=by
 induction l with
 | nil=>simp[Zb]
 | cons p r ih =>
  obtain ⟨k',v'⟩:=p
  by_cases h1:k'=k
  ·simp[Zb,h1]
  ·simp only[Zb,h1,if_false,List.map_cons,List.mem_cons,not_or,ih]
   exact ⟨fun h=>⟨fun e=>h1 e.symm,h⟩,fun h=>h.2⟩
theorem UT {l:List (K × V)} {k:K} {v:V} (h:Zb l k=some v):(k,v)∈l:=by
 induction l with
 | nil=>cases h
 | cons p r ih =>
  obtain ⟨k',v'⟩:=p
  by_cases h1:k'=k
  ·simp only[Zb,h1,if_true] at h;cases h;simp[h1]
  ·simp only[Zb,h1,if_false] at h;exact List.mem_cons_of_mem _ (ih h)
theorem TS (l:List (K × V)) (k:K) (hn:(l.map (·.1)).Nodup):Zb (XA l k) k=none:=by
 induction l with
 | nil=>rfl
 | cons p r ih =>
  obtain ⟨k',v'⟩:=p
  simp only[List.map_cons,List.nodup_cons] at hn
  by_cases h1:k'=k
  ·subst h1;simp only[XA,if_true];exact (Ur _ _).2 hn.1
  ·simp only[XA,Zb,h1,if_false];exact ih hn.2
theorem Z09 (l:List (K × V)) {k j:K} (h:k≠j):Zb (XA l k) j=Zb l j:=by
 induction l with
 | nil=>rfl
 | cons p r ih =>
  obtain ⟨k',v'⟩:=p
  by_cases h1:k'=k
  ·subst h1;simp[XA,Zb,h]
  ·simp only[XA,if_neg h1,Zb,ih]
theorem Z0N (l:List (K × V)) (k:K) (v:V):(Xo l k v).length≤l.length+1:=by
 induction l with
 | nil=>simp[Xo]
 | cons p r ih =>
  obtain ⟨k',v'⟩:=p
  by_cases h1:k'=k
  ·simp[Xo,h1]
  ·simp[Xo,h1];omega
structure Z2n (P:Program) (kt:TypeId) (ek:K→Value):Prop where
 check:∀ (em:Bool) (k:K) (w:World),(Instr.checkKey em 10000 kt (ek k)).run P w=.ok () w
 find:∀ (k:K) (es:List MapEntry) (l:List (K × V)) (w:World),es.map (·.key)=l.map (fun p=>ek p.1) →
  (Instr.findKey kt (ek k) es).run P w=.ok ((YA l k).map fun i=>(i,((es[i]?).map (·.val)).getD undef)) w
 stays:∀ (k:K) (w:World),(Instr.keyThatStays (ek k) (ek k)).run P w=.ok (ek k) w
def ZI (ek:K→Value) (ev:V→Value) (w:World) (b:Nat) (l:List (K × V)):Prop :=
 (l.map (·.1)).Nodup∧∃ es clock,w.heap[b]?=some (.map es clock)∧es.toList.map (·.key)=l.map (fun p=>ek p.1)∧es.toList.map (·.val)=l.map (fun p=>ev p.2) ∧
  es.toList.Pairwise (fun x y=>x.born<y.born)∧∀ e∈es.toList,e.born<clock
variable {ek:K→Value} {ev:V→Value} {w:World} {b:Nat} {l:List (K × V)}
theorem ZI.of_block {w':World} (h:ZI ek ev w b l) (hb:w'.heap[b]?=w.heap[b]?):ZI ek ev w' b l:=by
 obtain ⟨hn,es,clock,h1,h2⟩:=h
 exact ⟨hn,es,clock,hb.trans h1,h2⟩
theorem ZI.lt (h:ZI ek ev w b l):b<w.heap.size:=by
 obtain ⟨hn,es,clock,h1,h2⟩:=h
 exact (Array.getElem?_eq_some_iff.1 h1).1
theorem ZI.drew (h:ZI ek ev w b l):ZI ek ev w.drew b l:=h
theorem ZI.alloc (h:ZI ek ev w b l) (o:Obj):ZI ek ev (w.alloc o) b l:=h.of_block (Below.heap_alloc _ _ _ h.lt)
theorem ZI.setCell (h:ZI ek ev w b l) (p:Addr) (v:Value):ZI ek ev (w.setCell p v) b l:=by
 obtain ⟨hn,es,clock,h1,h2⟩:=h
 refine ⟨hn,es,clock,?_,h2⟩
 simp only[World.setCell,Array.getElem?_modify]
 split
 ·rename_i e
  subst e
  rw[h1]
  rfl
 ·exact h1
theorem ZI.ext {S:Nat→Prop} {w':World} (h:ZI ek ev w b l) (hx:Ext S w w') (hn:¬ S b):ZI ek ev w' b l:=h.of_block (hx.block b h.lt hn)
theorem ZI.made (w:World):ZI ek ev (w.alloc (.map #[] 0)) w.heap.size ([]:List (K × V)) :=
 ⟨List.nodup_nil,#[],0,by show (w.heap.push _)[w.heap.size]?=_;simp,rfl,rfl,List.Pairwise.nil,by simp⟩
theorem Xh {P:Program} {es:Array MapEntry} {clock:Nat} (h:w.heap[b]?=some (.map es clock)):(getObj b).run P w=.ok (.map es clock) w:=MapKept.run_getObj_map h
theorem ZI.lookup {P:Program} {mt kt et:TypeId} (h:ZI ek ev w b l) (hk:Z2n (V:=V) P kt ek) (hm:P.underlying mt=some (.map kt et)) {z:Value} (hz:∀ w,(zeroValue et).run P w=.ok z w) (k:K) :
  (Instr.lookup mt (.map (some b)) (ek k) false).run P w=.ok (((Zb l k).map ev).getD z) w:=by
 obtain ⟨hn,es,clock,h1,h2,h3,h4⟩:=h
 have hf:=hk.find k es.toList l w h2
 cases hi:YA l k with
 | none =>
  have h0:=Z5T hi
  rw[hi] at hf
  simp[Instr.lookup,run_underlying hm,Xh h1,hk.check,hf,hz,h0,Result.andThen]
 | some i =>
  obtain ⟨v,e1,e2⟩:=TG hi
  have hv:es.toList[i]?.map (·.val)=some (ev v):=by
   have:=congrArg (fun l:List Value=>l[i]?) h3
   simpa [e1] using this
  rw[hi] at hf
  simp only[Array.getElem?_toList] at hf hv
  simp[Instr.lookup,run_underlying hm,Xh h1,hk.check,hf,e2,Result.andThen]
  rw[show es[i]?.map (·.val)=some (ev v) from hv]
  rfl
def YX (w:World) (b:Nat) (i:Option Nat) (k v:Value):World :=
 match w.heap[b]? with
 | some (.map es clock)=>match i with
  | some i=>{ w with heap:=w.heap.setIfInBounds b (.map (es.modify i fun e=>{ e with key:=k,val:=v }) clock) }
  | none=>{ w with heap:=w.heap.setIfInBounds b (.map (es.push { key:=k,val:=v,born:=clock }) (clock+1)) }
 | _=>w
def YQ (w:World) (b:Nat) (i:Option Nat):World :=
 match w.heap[b]? with
 | some (.map es clock)=>match i with
  | some i=>{ w with heap:=w.heap.setIfInBounds b (.map (es.eraseIdxIfInBounds i) clock) }
  | none=>w
 | _=>w
theorem Q6 (w:World) (b:Nat) (i:Option Nat) (k v:Value):(YX w b i k v).heap.size=w.heap.size:=by
 unfold YX;split
 ·split <;> simp
 ·rfl
theorem UO (w:World) (b:Nat) (i:Option Nat) (k v:Value) (c:Nat) (h:c≠b):(YX w b i k v).heap[c]?=w.heap[c]?:=by
 unfold YX;split
 ·split <;> simp[Array.getElem?_setIfInBounds,h.symm]
 ·rfl
theorem Z3G (w:World) (b:Nat) (i:Option Nat) (k v:Value):YX w.drew b i k v=(YX w b i k v).drew:=by
 unfold YX
 show (match w.heap[b]? with|some (.map es clock)=>_|_=>_)=_
 split
 ·split <;> rfl
 ·rfl
theorem Z3R (w:World) (b:Nat) (i:Option Nat) (k v:Value) (a:Addr):(YX w b i k v).cell? a=w.cell? a:=by
 by_cases h:a.block=b
 ·subst h
  unfold YX
  split
  ·rename_i es clock hb
   split <;> (simp only[World.cell?,Array.getElem?_setIfInBounds,if_true,hb];split <;> simp_all)
  ·rfl
 ·exact World.cell?_of_block (w:=w) (UO w b i k v _ h)
theorem Z2c (w:World) (b:Nat) (i:Option Nat) (k v:Value) (a:Addr):(YX w b i k v).frozen? a=w.frozen? a:=by
 by_cases h:a.block=b
 ·subst h
  unfold YX
  split
  ·rename_i es clock hb
   split <;> (simp only[World.frozen?,Array.getElem?_setIfInBounds,if_true,hb];split <;> simp_all)
  ·rfl
 ·exact World.frozen?_of_block (w:=w) (UO w b i k v _ h)
theorem Qa (w:World) (b:Nat) (i:Option Nat):(YQ w b i).heap.size=w.heap.size:=by
 unfold YQ;split
 ·split <;> simp
 ·rfl
theorem T0 (w:World) (b:Nat) (i:Option Nat) (c:Nat) (h:c≠b):(YQ w b i).heap[c]?=w.heap[c]?:=by
 unfold YQ;split
 ·split <;> simp[Array.getElem?_setIfInBounds,h.symm]
 ·rfl
theorem Z3E (w:World) (b:Nat) (i:Option Nat) (a:Addr):(YQ w b i).cell? a=w.cell? a:=by
 by_cases h:a.block=b
 ·subst h
  unfold YQ
  split
  ·rename_i es clock hb
   split <;> (simp only[World.cell?,Array.getElem?_setIfInBounds,if_true,hb];try (split <;> simp_all))
  ·rfl
 ·exact World.cell?_of_block (w:=w) (T0 w b i _ h)
theorem Z2b (w:World) (b:Nat) (i:Option Nat) (a:Addr):(YQ w b i).frozen? a=w.frozen? a:=by
 by_cases h:a.block=b
 ·subst h
  unfold YQ
  split
  ·rename_i es clock hb
   split <;> (simp only[World.frozen?,Array.getElem?_setIfInBounds,if_true,hb];try (split <;> simp_all))
  ·rfl
 ·exact World.frozen?_of_block (w:=w) (T0 w b i _ h)
theorem Z3M (w:World) (b:Nat) (i:Option Nat):YQ w.drew b i=(YQ w b i).drew:=by
 unfold YQ
 show (match w.heap[b]? with|some (.map es clock)=>_|_=>_)=_
 split
 ·split <;> rfl
 ·rfl
theorem Z5b (w:World) (b:Nat) (i:Option Nat) (k v:Value):Ext (·=b) w (YX w b i k v):=by
 refine ⟨?_,?_,?_,Nat.le_of_eq (Q6 w b i k v).symm,fun c _ h=>UO w b i k v c h⟩ <;> (unfold YX;split <;> (try split) <;> rfl)
theorem Z4u (w:World) (b:Nat) (i:Option Nat):Ext (·=b) w (YQ w b i):=by
 refine ⟨?_,?_,?_,Nat.le_of_eq (Qa w b i).symm,fun c _ h=>T0 w b i c h⟩ <;> (unfold YQ;split <;> (try split) <;> rfl)
theorem Ext.mapPut {S:Nat→Prop} {a w:World} (h:Ext S a w) {b:Nat} (hb:S b∨a.heap.size≤b) (i:Option Nat) (k v:Value):Ext S a (YX w b i k v) :=
 h.andThen (Z5b w b i k v) (fun j hj e=>by rcases hb with hb|hb;exact e ▸ hb;exact absurd hj (by omega))
theorem Ext.mapDel {S:Nat→Prop} {a w:World} (h:Ext S a w) {b:Nat} (hb:S b∨a.heap.size≤b) (i:Option Nat):Ext S a (YQ w b i) :=
 h.andThen (Z4u w b i) (fun j hj e=>by rcases hb with hb|hb;exact e ▸ hb;exact absurd hj (by omega))
theorem ZI.update {P:Program} {mt kt et:TypeId} (h:ZI ek ev w b l) (hk:Z2n (V:=V) P kt ek) (hm:P.underlying mt=some (.map kt et)) (k:K) (v:Value) :
  (Instr.mapUpdate mt (.map (some b)) (ek k) v).run P w=.ok () (YX w b (YA l k) (ek k) v):=by
 obtain ⟨hn,es,clock,h1,h2,h3,h4⟩:=h
 have hf:=hk.find k es.toList l w h2
 cases hi:YA l k with
 | none =>
  rw[hi] at hf
  simp[Instr.mapUpdate,run_underlying hm,Xh h1,hk.check,hf,Result.andThen,MapKept.run_setObj_map _ h1,YX,h1]
 | some i =>
  obtain ⟨u,e1,e2⟩:=TG hi
  have hv:es.toList[i]?.map (·.key)=some (ek k):=by
   have:=congrArg (fun l:List Value=>l[i]?) h2
   simpa [e1] using this
  rw[hi] at hf
  simp only[Array.getElem?_toList] at hf hv
  simp[Instr.mapUpdate,run_underlying hm,Xh h1,hk.check,hf,hv,hk.stays,Result.andThen,MapKept.run_setObj_map _ h1,YX,h1]
theorem ZI.put (h:ZI ek ev w b l) (k:K) (v:V):ZI ek ev (YX w b (YA l k) (ek k) (ev v)) b (Xo l k v):=by
 refine ⟨QR l k v h.1,?_⟩
 have hlt:=h.lt
 obtain ⟨hn,es,clock,h1,h2,h3,h4,h5⟩:=h
 cases hi:YA l k with
 | none =>
  refine ⟨es.push { key:=ek k,val:=ev v,born:=clock },clock+1,?_,?_,?_,?_,?_⟩
  ·simp only[YX,h1];rw[Array.getElem?_setIfInBounds_self_of_lt hlt]
  ·simp[SX hi,h2]
  ·simp[SX hi,h3]
  ·rw[Array.toList_push,List.pairwise_append]
   refine ⟨h4,List.pairwise_singleton _ _,fun x hx y hy=>?_⟩
   rw[List.mem_singleton.1 hy]
   exact h5 x hx
  ·intro e he
   rw[Array.toList_push,List.mem_append] at he
   rcases he with he|he
   ·exact Nat.lt_succ_of_lt (h5 e he)
   ·rw[List.mem_singleton.1 he];exact Nat.lt_succ_self _
 | some i =>
  obtain ⟨u,e1,e2⟩:=TG hi
  have hset:∀ e,es.toList[i]?=some e→(es.modify i fun e=>{ e with key:=ek k,val:=ev v }).toList=es.toList.set i { e with key:=ek k,val:=ev v }:=fun e he=>by
   rw[Array.toList_modify,ChangeMaps.modify_eq_set _ _ _ _ he]
  obtain ⟨e0,he0⟩:∃ e,es.toList[i]?=some e:=by
   have:=congrArg (fun l:List Value=>l[i]?) h2
   simp only[List.getElem?_map,e1] at this
   cases hx:es.toList[i]? with
   | none=>rw[hx] at this;cases this
   | some e=>exact ⟨e,rfl⟩
  refine ⟨es.modify i fun e=>{ e with key:=ek k,val:=ev v },clock,?_,?_,?_,?_,?_⟩
  ·simp only[YX,h1];rw[Array.getElem?_setIfInBounds_self_of_lt hlt]
  ·rw[hset e0 he0,List.map_set,h2,Rg hi,List.map_set]
  ·rw[hset e0 he0,List.map_set,h3,Rg hi,List.map_set]
  ·rw[hset e0 he0]
   have:(es.toList.set i { e0 with key:=ek k,val:=ev v }).map (·.born)=es.toList.map (·.born):=by
    rw[List.map_set]
    refine List.ext_getElem? fun j=>?_
    rw[List.getElem?_set]
    split
    ·rename_i hij
     subst hij
     split
     ·simp[he0]
     ·rename_i hl
      simp only[List.length_map] at hl
      rw[List.getElem?_eq_none (by simpa using hl)]
    ·rfl
   have hp:((es.toList.set i { e0 with key:=ek k,val:=ev v }).map (·.born)).Pairwise (·<·):=by rw[this];exact List.pairwise_map.2 h4
   exact List.pairwise_map.1 hp
  ·intro e he
   rw[hset e0 he0] at he
   rcases List.mem_or_eq_of_mem_set he with he|he
   ·exact h5 e he
   ·rw[he];exact h5 e0 (List.mem_of_getElem? he0)
theorem ZI.delete {P:Program} {mt kt et ty:TypeId} (h:ZI ek ev w b l) (hk:Z2n (V:=V) P kt ek) (hm:P.underlying mt=some (.map kt et)) (k:K) :
  (Builtin.delete_ #[mt,kt] ty #[.map (some b),ek k]).run P w=.ok (.tuple #[]) (YQ w b (YA l k)):=by
 obtain ⟨hn,es,clock,h1,h2,h3,h4⟩:=h
 have hf:=hk.find k es.toList l w h2
 have hlt:=(Array.getElem?_eq_some_iff.1 h1)
 cases hi:YA l k with
 | none =>
  rw[hi] at hf
  have:({ w with heap:=w.heap.setIfInBounds b (.map es clock) }:World)=w:=by
   have e:w.heap.setIfInBounds b (.map es clock)=w.heap:=by
    apply Array.ext_getElem?
    intro j
    rw[Array.getElem?_setIfInBounds]
    split
    ·rename_i e;subst e;rw[if_pos hlt.1,h1]
    ·rfl
   rw[e]
  simp[Builtin.delete_,run_underlying hm,Xh h1,hk.check,hf,Result.andThen,MapKept.run_setObj_map _ h1,YQ,h1,this]
 | some i =>
  rw[hi] at hf
  simp[Builtin.delete_,run_underlying hm,Xh h1,hk.check,hf,Result.andThen,MapKept.run_setObj_map _ h1,YQ,h1]
theorem ZI.del (h:ZI ek ev w b l) (k:K):ZI ek ev (YQ w b (YA l k)) b (XA l k):=by
 refine ⟨SC l k h.1,?_⟩
 have hlt:=h.lt
 obtain ⟨hn,es,clock,h1,h2,h3,h4,h5⟩:=h
 cases hi:YA l k with
 | none=>exact ⟨es,clock,by simp[YQ,h1],by rw[Z1R hi];exact h2,by rw[Z1R hi];exact h3,h4,h5⟩
 | some i =>
  have hl:i<es.size:=by
   obtain ⟨u,e1,_⟩:=TG hi
   have:=congrArg List.length h2
   have h6:=(List.getElem?_eq_some_iff.1 e1).1
   simp at this
   omega
  have e3:(es.eraseIdxIfInBounds i).toList=es.toList.eraseIdx i:=by
   simp[Array.eraseIdxIfInBounds,hl]
  refine ⟨es.eraseIdxIfInBounds i,clock,by simp only[YQ,h1];rw[Array.getElem?_setIfInBounds_self_of_lt hlt],?_,?_,?_,?_⟩
  ·rw[e3,Z1T hi,ChangeMaps.map_eraseIdx,h2,ChangeMaps.map_eraseIdx]
  ·rw[e3,Z1T hi,ChangeMaps.map_eraseIdx,h3,ChangeMaps.map_eraseIdx]
  ·rw[e3];exact List.Pairwise.sublist (List.eraseIdx_sublist _ _) h4
  ·intro e he;rw[e3] at he;exact h5 e (List.mem_of_mem_eraseIdx he)
end maps
end Go.Proofs.YtgmdimbiipemhaaGreatDoor
namespace Go.Proofs.YtgmdimbiipemhaaGreatDoor
open Go.ChangeShapes Go.WideShapes Go.RowKit Go.Deep
theorem Tryz.own:ownKnob Tryz.prog.godebug=none:=by kernel_rfl
theorem Tryz.laidOut:laidOutB Tryz.prog=true:=by kernel_rfl
theorem Q7 {α:Type} {p:Nat→α→Prop}:∀ (n:Nat),(∀ i,i<n→∃ x,p i x)→∃ l:List α,l.length=n∧∀ i x,l[i]?=some x→p i x
 | 0,_=>⟨[],rfl,fun i x h=>by simp at h⟩
 | n+1,h=>by
  obtain ⟨l,hl,hp⟩:=Q7 n (fun i hi=>h i (by omega))
  obtain ⟨x,hx⟩:=h n (by omega)
  refine ⟨l++[x],by simp[hl],fun i y hy=>?_⟩
  by_cases hi:i<n
  ·rw[List.getElem?_append_left (by omega)] at hy
   exact hp i y hy
  ·rw[List.getElem?_append_right (by omega)] at hy
   have:i - l.length=0:=by
    have:=(List.getElem?_eq_some_iff.1 hy).1
    simp at this;omega
   rw[this] at hy
   cases hy
   have:i=n:=by omega
   subst this
   exact hx
def Z0 {α:Type} (enc:α→List Value) (k:Nat) (w:World) (v:Value) (l:List α):Prop :=
 ∃ a cap,v=.slice a l.length cap∧l.length≤cap∧cap≤maxLen∧(l≠[]→∃ b off,a=some ⟨b,off,none⟩∧∀ i x,l[i]?=some x→∀ j u,(enc x)[j]?=some u→w.cell? ⟨b,off+i*k+j,none⟩=some u)
theorem Z0.of {α:Type} {enc:α→List Value} {k:Nat} {w w':World} {v:Value} {l:List α} (h:Z0 enc k w v l) (hb:∀ b o u,w.cell? ⟨b,o,none⟩=some u→w'.cell? ⟨b,o,none⟩=some u):Z0 enc k w' v l:=by
 obtain ⟨a,cap,h1,h2,h3,h4⟩:=h
 refine ⟨a,cap,h1,h2,h3,fun hl=>?_⟩
 obtain ⟨b,off,h5,h6⟩:=h4 hl
 exact ⟨b,off,h5,fun i x hi j u hj=>hb _ _ _ (h6 i x hi j u hj)⟩
theorem Z0.below {α:Type} {enc:α→List Value} {k:Nat} {w w':World} {v:Value} {l:List α} (h:Z0 enc k w v l) (hb:Below w.heap.size w w'):Z0 enc k w' v l:=h.of (fun _ _ _ hu=>Y9 hb hu)
section
variable {H:Type} {enc:TypeId × Value→H} {P:Program} {w:World} {base:Nat} {spare:Nat→Bool} {held:Bool}
end
section
variable {H:Type} {enc:TypeId × Value→H} {w:World} {base:Nat} {spare:Nat→Bool} {held:Bool}
end
end Go.Proofs.YtgmdimbiipemhaaGreatDoor
namespace Go.Proofs.YtgmdimbiipemhaaGreatDoor
open Go.RowKit
def Own {α:Type} (ea:α→List Value) (k:Nat) (e:TypeId) (base:Nat) (w:World) (v:Value) (l:List α):Prop:=w.ownsRow base e k v l.length (l.flatMap ea)
section
variable {α:Type} {ea:α→List Value} {k:Nat} {e:TypeId} {base:Nat} {w:World} {v:Value} {l:List α}
theorem Zx (hk:∀ x,(ea x).length=k):∀ l:List α,(l.flatMap ea).length=l.length*k
 | []=>by simp
 | x :: l=>by rw[List.flatMap_cons,List.length_append,hk,Zx hk l,List.length_cons,Nat.add_mul,Nat.one_mul,Nat.add_comm]
theorem getElem?_flatMap_k (hk:∀ x,(ea x).length=k):∀ (l:List α) (i:Nat) (x:α),l[i]?=some x→∀ j u,(ea x)[j]?=some u→(l.flatMap ea)[i*k+j]?=some u
 | [],i,x,h,_,_,_=>by simp at h
 | y :: l,0,x,h,j,u,hj=>by
  simp at h
  subst h
  have:=(List.getElem?_eq_some_iff.1 hj).1
  rw[List.flatMap_cons,Nat.zero_mul,Nat.zero_add,List.getElem?_append_left this]
  exact hj
 | y :: l,i+1,x,h,j,u,hj=>by
  have ih:=getElem?_flatMap_k hk l i x (by simpa using h) j u hj
  rw[List.flatMap_cons,List.getElem?_append_right (by rw[hk,Nat.add_mul];omega),hk]
  have:(i+1)*k+j - k=i*k+j:=by rw[Nat.add_mul];omega
  rw[this]
  exact ih
theorem Own.nil:Own ea k e base w (.slice none 0 0) ([]:List α):=⟨by simp,.inl ⟨rfl,rfl⟩⟩
theorem Own.alloc (h:Own ea k e base w v l) (o:Obj):Own ea k e base (w.alloc o) v l:=World.ownsRow.alloc h o
theorem Own.drew (h:Own ea k e base w v l):Own ea k e base w.drew v l:=h
theorem Own.blk (h:Own ea k e base w v l):∀ b,v.ownBlock=some b→base≤b∧b<w.heap.size:=World.ownsRow.lt h
theorem Own.ext {S:Nat→Prop} {w':World} (h:Own ea k e base w v l) (hx:Ext S w w') (hn:∀ b,v.ownBlock=some b→¬ S b):Own ea k e base w' v l:=by
 obtain ⟨h1,h2⟩:=h
 refine ⟨h1,h2.imp id ?_⟩
 rintro ⟨g,cap,cur,hv,hb,hg,h3⟩
 have hlt:=(Array.getElem?_eq_some_iff.1 hg).1
 exact ⟨g,cap,cur,hv,hb,(hx.block g hlt (hn g (by rw[hv];rfl))).trans hg,h3⟩
theorem Own.mono {b':Nat} (h:Own ea k e base w v l) (hb:b'≤base):Own ea k e b' w v l:=by
 obtain ⟨h1,h2⟩:=h
 refine ⟨h1,h2.imp id ?_⟩
 rintro ⟨g,cap,cur,hv,hb',h3⟩
 exact ⟨g,cap,cur,hv,by omega,h3⟩
theorem Own.slice (h:Own ea k e base w v l) (hk:∀ x,(ea x).length=k):Z0 ea k w v l:=by
 have h0:=h
 obtain ⟨h1,h2⟩:=h
 rcases h2 with ⟨rfl,hn⟩|⟨g,cap,cur,rfl,hb,hg,hnc,hcm,hcs,htake⟩
 ·have:l=[]:=List.eq_nil_of_length_eq_zero hn
  subst this
  exact ⟨none,0,rfl,Nat.le_refl _,Nat.zero_le _,fun hne=>absurd rfl hne⟩
 ·refine ⟨some ⟨g,0,none⟩,cap,rfl,hnc,hcm,fun _=>⟨g,0,rfl,fun i x hi j u hj=>?_⟩⟩
  have hil:=(List.getElem?_eq_some_iff.1 hi).1
  have hjl:=(List.getElem?_eq_some_iff.1 hj).1
  rw[hk] at hjl
  have hlt:i*k+j<l.length*k:=by
   have:=Nat.mul_le_mul_right k (show i+1≤l.length from hil)
   rw[Nat.add_mul,Nat.one_mul] at this
   omega
  have:=World.ownsRow.cellAt h0 (i*k+j) hlt
  rw[getElem?_flatMap_k hk l i x hi j u hj] at this
  rw[Nat.zero_add]
  exact this
theorem Own.tag (h:Own ea k e base w v l) {b:Nat} (hb:v.ownBlock=some b):∃ cur,w.heap[b]?=some (.cells cur e (0,0)):=by
 obtain ⟨_,h3⟩:=h
 rcases h3 with ⟨h3,_⟩|⟨g,cap,cur,h3,_,hg,_⟩
 ·rw[h3] at hb;cases hb
 ·rw[h3] at hb;cases hb;exact ⟨cur,hg⟩
theorem Own.eq_slice (h:Own ea k e base w v l):(v=.slice none 0 0∧l=[])∨∃ g cap,v=.slice (some ⟨g,0,none⟩) l.length cap∧base≤g∧g<w.heap.size:=by
 obtain ⟨h1,h2⟩:=h
 rcases h2 with ⟨rfl,hn⟩|⟨g,cap,cur,rfl,hb,hg,h3⟩
 ·exact .inl ⟨rfl,List.eq_nil_of_length_eq_zero hn⟩
 ·exact .inr ⟨g,cap,rfl,hb,(Array.getElem?_eq_some_iff.1 hg).1⟩
theorem Ext.of_grown {w w':World} {row:Option Nat} (h:w.grownBy w' row):Ext (fun b=>row=some b) w w' :=
 ⟨h.os,h.tape,h.output,h.size,fun b hb hn=>h.block b hb (fun e=>hn e.symm)⟩
theorem Y7 {P:Program} {ops:Array Oper} {rest:List Oper} {o:Oper} {a:Act} {Q:Exit→Act→World→Prop} (hgd:o.guard=none) (s x:Operand) (t:TypeId)
  (ho:o.op=.call { callee:=.builtin .append,args:=#[s,x],argTypes:=#[t,t] })
  (i:TypeInfo) (z:Value) (bytes:Nat) (ht:P.underlying t=some (.slice e)) (hi:P.info? e=some i) (hz:i.zero=some z)
  (hsize:i.size=k) (hby:i.bytes=bytes) (hzs:z.cells.size=k) (hk0:0<k) (hk:∀ x,(ea x).length=k) (h1:∀ x,∀ u∈ea x,u.oneCell'=true)
  (hs:a.eval s=v) (hown:Own ea k e base w v l) (y:α) (nb c:Nat) (hx:a.eval x=.slice (some ⟨nb,0,none⟩) 1 c) (hnews:∀ j u,(ea y)[j]?=some u→w.cell? ⟨nb,j,none⟩=some u)
  (h63:l.length+1≤maxLen) (hbytes:(l.length+1)*bytes≤140737488355328) (hbase:base≤w.heap.size)
  (h:∀ v' w',Own ea k e base w' v' (l++[y])→Ext (fun b=>v.ownBlock=some b) w w'→wpList P ops Q rest (a.put o.dst v') w'):wpList P ops Q (o :: rest) a w:=by
 refine wpList_append_own w hgd s x t ho base e i z k bytes ht hi hz hsize hby hzs hk0 v l.length (l.flatMap ea) hs hown ⟨nb,0,none⟩ 1 c (ea y) hx (by rw[hk,Nat.one_mul]) (fun j u hj=>?_) (h1 y) h63 hbytes hbase (fun v' w' h2 h3 _=>h v' w' ?_ (Ext.of_grown h3))
 ·have:=hnews j u hj
  rw[show (Addr.add ⟨nb,0,none⟩ j)=⟨nb,j,none⟩ from by unfold Addr.add;split <;> simp_all]
  exact this
 ·unfold Own
  rw[List.length_append,List.flatMap_append]
  simpa using h2
end
end Go.Proofs.YtgmdimbiipemhaaGreatDoor
namespace Go.Proofs.YtgmdimbiipemhaaGreatDoor
open Go.RowKit Go.Deep
section
variable {α:Type} {ea:α→List Value} {k:Nat} {e:TypeId} {base:Nat} {w:World}
theorem RZ (hk:∀ x,(ea x).length=k) {j:Nat} {u:Value} (hj:j<k):∀ (l:List α) (i:Nat) (x y:α),l[i]?=some x→ea y=(ea x).set j u→(l.set i y).flatMap ea=(l.flatMap ea).set (i*k+j) u
 | [],i,x,y,h,_=>by simp at h
 | a :: l,0,x,y,h,hy=>by
  simp at h
  subst h
  simp only[List.set_cons_zero,List.flatMap_cons,Nat.zero_mul,Nat.zero_add]
  rw[hy,List.set_append_left _ _ (by rw[hk];exact hj)]
 | a :: l,i+1,x,y,h,hy=>by
  simp only[List.getElem?_cons_succ] at h
  have ih:=RZ hk hj l i x y h hy
  simp only[List.set_cons_succ,List.flatMap_cons]
  rw[ih,List.set_append_right _ _ (by rw[hk,Nat.add_mul];omega)]
  congr 2
  rw[hk,Nat.add_mul]
  omega
theorem Own.setAt {g cap:Nat} {l:List α} (h:Own ea k e base w (.slice (some ⟨g,0,none⟩) l.length cap) l) (hk:∀ x,(ea x).length=k) {i j:Nat} {x y:α} {u:Value} (hx:l[i]?=some x) (hj:j<k) (hy:ea y=(ea x).set j u) :
  Own ea k e base (w.setCell ⟨g,i*k+j,none⟩ u) (.slice (some ⟨g,0,none⟩) l.length cap) (l.set i y):=by
 have hf:=RZ hk hj l i x y hx hy
 obtain ⟨h1,h2⟩:=h
 refine ⟨by rw[hf,List.length_set,List.length_set];exact h1,?_⟩
 rcases h2 with ⟨e1,_⟩|⟨g',cap',cur,e1,hb,hg,hn,hm,hs,ht⟩
 ·cases e1
 ·cases e1
  refine .inr ⟨g,cap,cur.setIfInBounds (i*k+j) u,by rw[List.length_set],hb,Joins.block_setCell hg u,by rw[List.length_set];exact hn,hm,by simpa using hs,?_⟩
  rw[hf,←ht,List.length_set,Array.toList_setIfInBounds,List.take_set]
theorem Own.cellAt {g cap:Nat} {l:List α} (h:Own ea k e base w (.slice (some ⟨g,0,none⟩) l.length cap) l) (hk:∀ x,(ea x).length=k) {i j:Nat} {x:α} {u:Value} (hx:l[i]?=some x) (hu:(ea x)[j]?=some u) :
  w.cell? ⟨g,i*k+j,none⟩=some u:=by
 obtain ⟨a,c,e1,_,_,h4⟩:=h.slice hk
 cases e1
 obtain ⟨b,o,e2,h5⟩:=h4 (by rintro rfl;simp at hx)
 cases e2
 have:=h5 i x hx j u hu
 rwa [Nat.zero_add] at this
theorem Own.free {g cap:Nat} {l:List α} (h:Own ea k e base w (.slice (some ⟨g,0,none⟩) l.length cap) l) (o:Nat):w.frozen? ⟨g,o,none⟩=false:=by
 obtain ⟨cur,hc⟩:=h.tag (b:=g) rfl
 exact Joins.unfrozen_of_block hc o
end
end Go.Proofs.YtgmdimbiipemhaaGreatDoor
namespace Go.Proofs.YtgmdimbiipemhaaGreatDoor
open Go.RowKit
structure Sl where
 a:Option Addr
 n:Nat
 cap:Nat
def Sl.val (s:Sl):Value:=.slice s.a s.n s.cap
theorem Own.sl {α:Type} {ea:α→List Value} {k:Nat} {e:TypeId} {base:Nat} {w:World} {v:Value} {l:List α} (h:Own ea k e base w v l):∃ s:Sl,v=.slice s.a s.n s.cap:=by
 rcases h.eq_slice with ⟨rfl,_⟩|⟨g,c,rfl,_,_⟩
 ·exact ⟨⟨none,0,0⟩,rfl⟩
 ·exact ⟨⟨_,_,_⟩,rfl⟩
theorem Own.nlen {α:Type} {ea:α→List Value} {q:Nat} {T:TypeId} {base:Nat} {w:World} {a:Option Addr} {n cap:Nat} {l:List α} (h:Own ea q T base w (.slice a n cap) l) (hk:∀ x,(ea x).length=q):n=l.length∧n≤cap∧cap≤9223372036854775807:=by
 obtain ⟨a,c,e1,h2,h3,h4⟩:=h.slice hk
 cases e1
 exact ⟨rfl,h2,by unfold maxLen at h3;exact h3⟩
def u8c (x:UInt8):List Value:=[.int .u8 x.toNat]
theorem Z7 (x:UInt8):(u8c x).length=1:=rfl
theorem Wt (x:UInt8):∀ u∈u8c x,u.oneCell'=true:=by
 intro u hu
 simp only[u8c,List.mem_cons,List.not_mem_nil,or_false] at hu
 subst hu
 rfl
theorem Rd (W:World) (x:UInt8):∀ j u,(u8c x)[j]?=some u→(W.alloc (.cells #[.int .u8 x.toNat] 5)).cell? ⟨W.heap.size,j,none⟩=some u:=by
 intro j u hj
 rw[World.cell?_alloc_at _ _ _ _ rfl,←hj,u8c]
 simp
theorem YO:(Tryz.prog.info? 5).map (fun i=>(i.zero,i.size,i.bytes))=some (some (.int .u8 0),1,1):=by kernel_rfl
def Zh (x:Int):List Value:=[.int .i64 x]
theorem Zg (x:Int):(Zh x).length=1:=rfl
theorem XF (x:Int):∀ u∈Zh x,u.oneCell'=true:=by
 intro u hu
 simp only[Zh,List.mem_cons,List.not_mem_nil,or_false] at hu
 subst hu
 rfl
theorem Wm (W:World) (x:Int):∀ j u,(Zh x)[j]?=some u→(W.alloc (.cells #[.int .i64 x] 3)).cell? ⟨W.heap.size,j,none⟩=some u:=by
 intro j u hj
 rw[World.cell?_alloc_at _ _ _ _ rfl,←hj,Zh]
 simp
theorem Wa:(Tryz.prog.info? 3).map (fun i=>(i.zero,i.size,i.bytes))=some (some (.int .i64 0),1,8):=by kernel_rfl
def btc (x:Bool):List Value:=[.bool x]
theorem ZX (x:Bool):(btc x).length=1:=rfl
theorem VC (x:Bool):∀ u∈btc x,u.oneCell'=true:=by
 intro u hu
 simp only[btc,List.mem_cons,List.not_mem_nil,or_false] at hu
 subst hu
 rfl
theorem Um (W:World) (x:Bool):∀ j u,(btc x)[j]?=some u→(W.alloc (.cells #[.bool x] 4)).cell? ⟨W.heap.size,j,none⟩=some u:=by
 intro j u hj
 rw[World.cell?_alloc_at _ _ _ _ rfl,←hj,btc]
 simp
theorem UF:(Tryz.prog.info? 4).map (fun i=>(i.zero,i.size,i.bytes))=some (some (.bool false),1,1):=by kernel_rfl
theorem Z0.at1 {α:Type} {ea:α→List Value} {w:World} {a:Option Addr} {n cap:Nat} {l:List α} (h:Z0 ea 1 w (.slice a n cap) l) {k:Nat} {x:α} {u:Value} (hx:l[k]?=some x) (hu:ea x=[u]):∃ b o,a=some ⟨b,o,none⟩∧w.cell? ⟨b,o+k,none⟩=some u:=by
 obtain ⟨_,_,e,_,_,h4⟩:=h
 cases e
 obtain ⟨b,o,rfl,h5⟩:=h4 (by rintro rfl;simp at hx)
 have:=h5 k x hx 0 u (by rw[hu];rfl)
 rw[Nat.mul_one,Nat.add_zero] at this
 exact ⟨b,o,rfl,this⟩
theorem Z0.n_eq {α:Type} {ea:α→List Value} {q:Nat} {w:World} {a:Option Addr} {n cap:Nat} {l:List α} (h:Z0 ea q w (.slice a n cap) l):n=l.length∧n≤cap∧cap≤9223372036854775807:=by
 obtain ⟨_,_,e,h2,h3,_⟩:=h
 cases e
 exact ⟨rfl,h2,by unfold maxLen at h3;exact h3⟩
end Go.Proofs.YtgmdimbiipemhaaGreatDoor
namespace Go.Proofs.YtgmdimbiipemhaaGreatDoor
def Z5 (n:Nat):List UInt8:=if n<128 then [UInt8.ofNat n] else UInt8.ofNat (n % 128+128) :: Z5 (n / 128)
termination_by n
decreasing_by omega
theorem XL {n:Nat} (h:n<128):Z5 n=[UInt8.ofNat n]:=by rw[Z5,if_pos h]
theorem Vg {n:Nat} (h:¬ n<128):Z5 n=UInt8.ofNat (n % 128+128) :: Z5 (n / 128):=by rw[Z5,if_neg h]
theorem Wl (n:Nat):Z5 n≠[]:=by
 rw[Z5]
 split <;> simp
theorem Yv {n:Nat} (h:n<256):(UInt8.ofNat n).toNat=n:=by simp;omega
theorem Z5H:∀ (n m:Nat) (b:List UInt8),Z5 n <+: b→Z5 m <+: b→n=m:=by
 intro n
 induction n using Nat.strongRecOn with
 | ind n ih =>
  intro m b hn hm
  by_cases h1:n<128
  ·by_cases h2:m<128
   ·rw[XL h1] at hn
    rw[XL h2] at hm
    obtain ⟨t,rfl⟩:=hn
    obtain ⟨s,e⟩:=hm
    simp only[List.cons_append,List.nil_append,List.cons.injEq] at e
    have:=congrArg UInt8.toNat e.1
    rw[Yv (by omega),Yv (by omega)] at this
    exact this.symm
   ·rw[XL h1] at hn
    rw[Vg h2] at hm
    obtain ⟨t,rfl⟩:=hn
    obtain ⟨s,e⟩:=hm
    simp only[List.cons_append,List.nil_append,List.cons.injEq] at e
    have:=congrArg UInt8.toNat e.1
    rw[Yv (by omega),Yv (by omega)] at this
    omega
  ·by_cases h2:m<128
   ·rw[Vg h1] at hn
    rw[XL h2] at hm
    obtain ⟨t,rfl⟩:=hm
    obtain ⟨s,e⟩:=hn
    simp only[List.cons_append,List.nil_append,List.cons.injEq] at e
    have:=congrArg UInt8.toNat e.1
    rw[Yv (by omega),Yv (by omega)] at this
    omega
   ·rw[Vg h1] at hn
    rw[Vg h2] at hm
    cases b with
    | nil=>simp at hn
    | cons x b =>
     rw[List.cons_prefix_cons] at hn hm
     have e:=congrArg UInt8.toNat (hn.1.trans hm.1.symm)
     rw[Yv (by omega),Yv (by omega)] at e
     have:=ih (n / 128) (by omega) (m / 128) b hn.2 hm.2
     omega
def Yd:List UInt8→Nat
 | []=>0
 | x :: l=>x.toNat % 128+128*Yd l
theorem Tg:∀ (l:List UInt8) (x:UInt8),Yd (l++[x])=Yd l+x.toNat % 128*128 ^ l.length
 | [],x=>by simp[Yd]
 | y :: l,x=>by
  rw[List.cons_append,Yd,Tg l x,Yd,List.length_cons,Nat.pow_succ]
  rw[Nat.mul_add,←Nat.mul_assoc,Nat.mul_comm 128 (x.toNat % 128),Nat.mul_assoc,Nat.mul_comm 128 (128 ^ l.length)]
  omega
theorem U8:∀ l:List UInt8,Yd l<128 ^ l.length
 | []=>by simp[Yd]
 | x :: l=>by
  have:=U8 l
  rw[Yd,List.length_cons,Nat.pow_succ]
  have:x.toNat % 128<128:=Nat.mod_lt _ (by omega)
  omega
theorem Z2N:∀ (l:List UInt8) (x:UInt8),(∀ y∈l,128≤y.toNat)→x.toNat<128→(l≠[]→x.toNat≠0)→Z5 (Yd (l++[x]))=l++[x]
 | [],x,_,h2,_=>by
  simp only[List.nil_append,Yd,Nat.mul_zero,Nat.add_zero]
  rw[Nat.mod_eq_of_lt h2,XL h2]
  simp
 | y :: l,x,h1,h2,h3=>by
  have hy:=h1 y (by simp)
  have hy2:y.toNat<256:=y.toNat_lt
  have hp:0<Yd (l++[x]):=by
   rw[Tg,Nat.mod_eq_of_lt h2]
   have:=h3 (by simp)
   have h4:0<128 ^ l.length:=Nat.pow_pos (by omega)
   have:0<x.toNat*128 ^ l.length:=Nat.mul_pos (by omega) h4
   omega
  have ih:=Z2N l x (fun z hz=>h1 z (by simp[hz])) h2 (fun _=>h3 (by simp))
  rw[List.cons_append,Yd,Vg (by omega)]
  have e1:(y.toNat % 128+128*Yd (l++[x])) / 128=Yd (l++[x]):=by omega
  have e2:(y.toNat % 128+128*Yd (l++[x])) % 128+128=y.toNat:=by omega
  rw[e1,e2,ih]
  simp
theorem SF:∀ (n:Nat),∃ l x,Z5 n=l++[x]∧(∀ y∈l,128≤y.toNat)∧x.toNat<128∧(l≠[]→x.toNat≠0)∧Yd (l++[x])=n:=by
 intro n
 induction n using Nat.strongRecOn with
 | ind n ih =>
  by_cases h:n<128
  ·refine ⟨[],UInt8.ofNat n,by rw[XL h];rfl,fun y hy=>by simp at hy,by rw[Yv (by omega)];exact h,fun h=>absurd rfl h,?_⟩
   simp only[List.nil_append,Yd]
   rw[Yv (by omega)]
   omega
  ·obtain ⟨l,x,h1,h2,h3,h4,h5⟩:=ih (n / 128) (by omega)
   refine ⟨UInt8.ofNat (n % 128+128) :: l,x,by rw[Vg h,h1];rfl,fun y hy=>?_,h3,fun _ hx=>?_,?_⟩
   ·rcases List.mem_cons.1 hy with rfl|hy
    ·rw[Yv (by omega)];omega
    ·exact h2 y hy
   ·by_cases hl:l=[]
    ·subst hl
     simp only[List.nil_append,Yd] at h5
     omega
    ·exact h4 hl hx
   ·rw[List.cons_append,Yd,h5,Yv (by omega)]
    omega
theorem Wg (n k:Nat) (hk:0<k):(Z5 n).length≤k↔n<128 ^ k:=by
 induction k generalizing n with
 | zero=>omega
 | succ k ih =>
  by_cases h:n<128
  ·rw[XL h]
   have:128≤128 ^ (k+1):=by rw[Nat.pow_succ];have:=Nat.pow_pos (n:=k) (show 0<128 by omega);omega
   simp
   omega
  ·rw[Vg h,List.length_cons,Nat.pow_succ]
   by_cases hk0:k=0
   ·subst hk0
    have:=Wl (n / 128)
    have h1:0<(Z5 (n / 128)).length:=List.length_pos_iff.2 this
    rw[Nat.pow_zero,Nat.one_mul]
    constructor
    ·intro h2;omega
    ·intro h2;exact absurd h2 h
   ·have:=ih (n / 128) (by omega)
    rw[Nat.add_le_add_iff_right,this]
    rw[Nat.div_lt_iff_lt_mul (by omega)]
def Ws (b:List UInt8) (n:Nat):Prop:=n<18446744073709551616∧Z5 n <+: b
theorem Ws.uniq {b:List UInt8} {n m:Nat} (h:Ws b n) (k:Ws b m):n=m:=Z5H n m b h.2 k.2
open Classical in
noncomputable def ZA (b:List UInt8):Option Nat:=if h:∃ n,Ws b n then some (Classical.choose h) else none
theorem Zz {b:List UInt8} {n:Nat}:ZA b=some n↔Ws b n:=by
 unfold ZA
 constructor
 ·intro h
  split at h
  ·rename_i hx
   cases h
   exact Classical.choose_spec hx
  ·cases h
 ·intro h
  have hx:∃ n,Ws b n:=⟨n,h⟩
  rw[dif_pos hx]
  exact congrArg some ((Classical.choose_spec hx).uniq h)
theorem VO {b:List UInt8}:ZA b=none↔∀ n,¬ Ws b n:=by
 constructor
 ·intro h n hn
  rw[Zz.2 hn] at h
  cases h
 ·intro h
  cases hb:ZA b with
  | none=>rfl
  | some n=>exact absurd (Zz.1 hb) (h n)
def WM (b:List UInt8) (i:Nat):Prop:=i≤b.length∧∀ (j:Nat) x,j<i→b[j]?=some x→128≤x.toNat
theorem TD (b:List UInt8):WM b 0:=⟨Nat.zero_le _,fun j x hj=>absurd hj (by omega)⟩
theorem WM.succ {b:List UInt8} {i:Nat} {x:UInt8} (h:WM b i) (hx:b[i]?=some x) (hg:128≤x.toNat):WM b (i+1) :=
 ⟨(
  List.getElem?_eq_some_iff.1 hx).1,fun j y hj hy=>by
  by_cases e:j=i
  ·subst e;rw[hx] at hy;cases hy;exact hg
  ·exact h.2 j y (by omega) hy⟩
theorem WM.all {b:List UInt8} {i:Nat} (h:WM b i):∀ y∈b.take i,128≤y.toNat:=fun y hy=>by
 obtain ⟨j,hj⟩:=List.getElem?_of_mem hy
 rw[List.getElem?_take] at hj
 split at hj
 ·exact h.2 j y (by assumption) hj
 ·cases hj
theorem QV {b:List UInt8} {i:Nat} {x:UInt8} (hx:b[i]?=some x):b.take (i+1)=b.take i++[x]:=by
 rw[List.take_add_one,hx,Option.toList_some]
theorem WM.stop {b:List UInt8} {i:Nat} {x:UInt8} (h:WM b i) (hx:b[i]?=some x) (hl:x.toNat<128) (h0:0<i→x.toNat≠0) (hn:Yd (b.take (i+1))<18446744073709551616) :
  Ws b (Yd (b.take (i+1)))∧(Z5 (Yd (b.take (i+1)))).length=i+1:=by
 have hi:=(List.getElem?_eq_some_iff.1 hx).1
 have e:=Z2N (b.take i) x h.all hl (fun hne=>h0 (by
  by_cases e:i=0
  ·subst e;simp at hne
  ·omega))
 rw[←QV hx] at e
 refine ⟨⟨hn,?_⟩,?_⟩
 ·rw[e];exact List.take_prefix _ _
 ·rw[e,List.length_take];omega
theorem WM.bad {b:List UInt8} {i n:Nat} {x:UInt8} (h:WM b i) (hx:b[i]?=some x) (hb:(0<i∧x.toNat=0)∨(i=9∧1<x.toNat % 128)):¬ Ws b n:=fun ⟨hn,hp⟩=>by
 obtain ⟨l,y,h1,h2,h3,h4,h5⟩:=SF n
 have hlen:(Z5 n).length≤10:=(Wg n 10 (by omega)).2 (by omega)
 rw[h1] at hp hlen
 have hget:∀ j z,(l++[y])[j]?=some z→b[j]?=some z:=fun j z hz=>by
  obtain ⟨t,rfl⟩:=hp
  rw[List.getElem?_append_left (List.getElem?_eq_some_iff.1 hz).1]
  exact hz
 rw[List.length_append,List.length_cons,List.length_nil] at hlen
 have hyl:=hget l.length y (by simp)
 have hll:¬ l.length<i:=fun hlt=>by
  have:=h.2 l.length y hlt hyl
  omega
 rcases Nat.lt_or_ge i l.length with hil|hil
 ·-- it goes on behind i
  obtain ⟨z,hz⟩:∃ z,l[i]?=some z:=⟨_,List.getElem?_eq_getElem hil⟩
  have:=hget i z (by rw[List.getElem?_append_left hil];exact hz)
  rw[hx] at this
  cases this
  have hxg:=h2 x (List.mem_of_getElem? hz)
  rcases hb with ⟨_,h0⟩|⟨h9,_⟩ <;> omega
 ·have hil2:i=l.length:=by omega
  subst hil2
  rw[hx] at hyl
  cases hyl
  rcases hb with ⟨h0,hz⟩|⟨h9,hz⟩
  ·exact h4 (by intro e;rw[e] at h0;simp at h0) hz
  ·rw[Tg,h9,Nat.mod_eq_of_lt h3] at h5
   rw[Nat.mod_eq_of_lt h3] at hz
   have:2*128 ^ 9≤x.toNat*128 ^ 9:=Nat.mul_le_mul_right _ (by omega)
   omega
theorem WM.over {b:List UInt8} {i n:Nat} (h:WM b i) (hi:i=b.length∨i=10):¬ Ws b n:=fun ⟨hn,hp⟩=>by
 obtain ⟨l,y,h1,h2,h3,h4,h5⟩:=SF n
 have hlen:(Z5 n).length≤10:=(Wg n 10 (by omega)).2 (by omega)
 have hle:=hp.length_le
 rw[h1] at hp hlen hle
 rw[List.length_append,List.length_cons,List.length_nil] at hlen hle
 have hyl:b[l.length]?=some y:=by
  obtain ⟨t,rfl⟩:=hp
  rw[List.getElem?_append_left (by simp)]
  simp
 have:=h.2 l.length y (by rcases hi with hi|hi <;> omega) hyl
 omega
def Yf (n:Int):Nat:=if 0≤n then (2*n).toNat else (-2*n - 1).toNat
def YL (n:Nat):Int:=if n % 2=0 then ((n / 2:Nat):Int) else -((n / 2:Nat):Int) - 1
theorem Z13 (n:Int):YL (Yf n)=n:=by
 unfold YL Yf
 split <;> split <;> omega
theorem Z19 (n:Nat):Yf (YL n)=n:=by
 unfold YL Yf
 split <;> split <;> omega
theorem VD {n:Int} (h1:-9223372036854775808≤n) (h2:n≤9223372036854775807):Yf n<18446744073709551616:=by
 unfold Yf
 split <;> omega
theorem Z0F {n:Nat} (h:n<18446744073709551616):-9223372036854775808≤YL n∧YL n≤9223372036854775807:=by
 unfold YL
 split <;> omega
end Go.Proofs.YtgmdimbiipemhaaGreatDoor
namespace Go.Proofs.YtgmdimbiipemhaaGreatDoor
open Go.RowKit Go.Deep
theorem Qi (a b:ByteArray):a.toList=b.toList↔a=b:=by
 rw[ByteArray.toList_eq,ByteArray.toList_eq]
 constructor
 ·intro h
  obtain ⟨x⟩:=a
  obtain ⟨y⟩:=b
  exact congrArg ByteArray.mk (Array.toList_inj.1 h)
 ·intro h;rw[h]
theorem SE:Tryz.prog.underlying 9=some .string:=by kernel_rfl
theorem XK (a b:ByteArray):(a == b)=decide (a=b):=by
 rw[show (a == b)=(a.data == b.data) from by cases a;cases b;rfl]
 by_cases h:a=b
 ·subst h;simp
 ·have:¬ a.data=b.data:=fun e=>h (by cases a;cases b;cases e;rfl)
  simp[h,this]
theorem Z1m:∀ (bs:List UInt8) (s:ByteArray),(bs.map fun x=>(x.toNat:Int)).foldl (fun r n=>r.push (UInt8.ofNat n.toNat)) s=⟨(s.data.toList++bs).toArray⟩
 | [],s=>by cases s;simp
 | b :: bs,s=>by
  rw[List.map_cons,List.foldl_cons,Z1m bs]
  congr 1
  simp[ByteArray.push]
theorem Zs {W:World} {v:Value} {bs:List UInt8} (h:Z0 u8c 1 W v bs):(convert 22 9 v).run Tryz.prog W=.ok (.string ⟨bs.toArray⟩) W:=by
 obtain ⟨a,cap,rfl,hcap,hmax,hcs⟩:=h
 rw[run_convert_bytes_string W 22 9 5 a bs.length cap Tryz.underlying22 (by kernel_rfl) Tryz.underlying9]
 cases a with
 | none =>
  have hys:bs=[]:=Classical.byContradiction fun hn=>by obtain ⟨b,o,e,_⟩:=hcs hn;cases e
  subst hys
  simp[Conv.bytesToString]
  rfl
 | some ad =>
  have hl:=run_loadCells_list (P:=Tryz.prog) W ad ((bs.map fun x=>(x.toNat:Int)).map (Value.int .u8)) (fun j v hj=>by
   rw[List.map_map,List.getElem?_map] at hj
   cases hb:bs[j]? with
   | none=>rw[hb] at hj;cases hj
   | some x =>
    rw[hb] at hj
    cases hj
    obtain ⟨b,o,e,h4⟩:=hcs (by rintro rfl;simp at hb)
    cases e
    have:=h4 j x hb 0 _ rfl
    rw[Nat.mul_one,Nat.add_zero] at this
    rw[show (Addr.add ⟨b,o,none⟩ j)=⟨b,o+j,none⟩ from by unfold Addr.add;split <;> simp_all]
    exact this)
  have:=run_bytesToString (P:=Tryz.prog) W ad bs.length cap (bs.map fun x=>(x.toNat:Int)) (by simpa using hl)
  rw[this,Z1m]
  simp
theorem Z0.take1 {α:Type} {ea:α→List Value} {q:Nat} {w:World} {a:Option Addr} {cap n k:Nat} {l:List α} (h:Z0 ea q w (.slice a n cap) l) (hn:k≤l.length):Z0 ea q w (.slice a k cap) (l.take k):=by
 obtain ⟨a',cap',e,hc,hm,h4⟩:=h
 cases e
 have e:(l.take k).length=k:=by rw[List.length_take];omega
 refine ⟨a,cap,by rw[e],by omega,hm,fun hl=>?_⟩
 obtain ⟨b,off,h5,h6⟩:=h4 (by rintro rfl;simp at hl)
 refine ⟨b,off,h5,fun i x hi j u hj=>h6 i x ?_ j u hj⟩
 rw[List.getElem?_take] at hi
 split at hi
 ·exact hi
 ·cases hi
theorem Z8e {l1 l2:List UInt8} (he:l1≠l2):((⟨l1.toArray⟩:ByteArray) == ⟨l2.toArray⟩)=false∧((⟨l1.toArray⟩:ByteArray).toList == (⟨l2.toArray⟩:ByteArray).toList)=false:=by
 have h:(⟨l1.toArray⟩:ByteArray)≠⟨l2.toArray⟩:=fun e=>he (by cases e;rfl)
 refine ⟨by rw[XK];simp[h],?_⟩
 cases hh:((⟨l1.toArray⟩:ByteArray).toList == (⟨l2.toArray⟩:ByteArray).toList) with
 | false=>rfl
 | true=>exact absurd ((Qi _ _).1 (by simpa using hh)) h
theorem WM.only {b:List UInt8} {i n:Nat} {x:UInt8} (h:WM b i) (hx:b[i]?=some x) (hl:x.toNat<128) (hn:Ws b n):Z5 n=b.take (i+1)∧Yd (b.take (i+1))=n:=by
 obtain ⟨hn1,hp⟩:=hn
 obtain ⟨l,y,h1,h2,h3,h4,h5⟩:=SF n
 rw[h1] at hp ⊢
 have hget:∀ j z,(l++[y])[j]?=some z→b[j]?=some z:=fun j z hz=>by
  obtain ⟨t,rfl⟩:=hp
  rw[List.getElem?_append_left (List.getElem?_eq_some_iff.1 hz).1]
  exact hz
 have hyl:=hget l.length y (by simp)
 have hll:¬ l.length<i:=fun hlt=>by
  have:=h.2 l.length y hlt hyl
  omega
 have hgg:¬ i<l.length:=fun hlt=>by
  obtain ⟨z,hz⟩:∃ z,l[i]?=some z:=⟨_,List.getElem?_eq_getElem hlt⟩
  have:=hget i z (by rw[List.getElem?_append_left hlt];exact hz)
  rw[hx] at this
  cases this
  have:=h2 x (List.mem_of_getElem? hz)
  omega
 have hil:i=l.length:=by omega
 subst hil
 have e:l++[y]=b.take (l.length+1):=by
  obtain ⟨t,rfl⟩:=hp
  rw[List.take_append_of_le_length (by simp),List.take_of_length_le (by simp)]
 exact ⟨e,by rw[←e];exact h5⟩
end Go.Proofs.YtgmdimbiipemhaaGreatDoor
namespace Go.Proofs.YtgmdimbiipemhaaGreatDoor
open Go.RowKit
theorem Q3 {V:Type} (k:ByteArray):∀ (es:List MapEntry) (l:List (ByteArray × V)) (i:Nat),es.map (·.key)=l.map (fun p=>.string p.1) →
  Instr.findNow .string (.string k) es i=some ((YA l k).map fun j=>(i+j,((es[j]?).map (·.val)).getD undef))
 | [],[],i,_=>by simp[Instr.findNow,YA]
 | [],_ :: _,_,h=>by simp at h
 | _ :: _,[],_,h=>by simp at h
 | e :: es,p :: l,i,h=>by
  obtain ⟨k',v⟩:=p
  simp only[List.map_cons,List.cons.injEq] at h
  obtain ⟨h1,h2⟩:=h
  have ih:=Q3 k es l (i+1) h2
  simp only[Instr.findNow,h1,Instr.sameNow]
  by_cases hk:k'=k
  ·subst hk
   simp[YA,XK]
  ·have hk':¬ k=k':=fun e=>hk e.symm
   have:(k == k')=false:=by rw[XK];simp[hk']
   simp only[this,ih,YA,hk,if_false]
   cases YA l k with
   | none=>rfl
   | some j=>simp[Nat.add_assoc,Nat.add_comm 1 j]
theorem VR {V:Type}:Z2n (V:=V) Tryz.prog 9 Value.string where
 check em k w:=by kernel_rfl
 find k es l w h:=by
  simp only[Instr.findKey,Sem.run_bind,run_underlying SE,Result.andThen_ok,Q3 k es l 0 h,Sem.run_pure]
  cases YA l k <;> simp
 stays k w:=by simp[Instr.keyThatStays,Instr.sameBits,beq_toListBytes]
theorem Own.slv {α:Type} {ea:α→List Value} {k:Nat} {e:TypeId} {base:Nat} {w:World} {v:Value} {l:List α} (h:Own ea k e base w v l):∃ s:Sl,v=s.val:=by
 rcases h.eq_slice with ⟨rfl,_⟩|⟨g,c,rfl,_,_⟩
 ·exact ⟨⟨none,0,0⟩,rfl⟩
 ·exact ⟨⟨_,_,_⟩,rfl⟩
structure Pc where
 s:Sl
 came:Int
 safe:Int
def Pc.cells (p:Pc):List Value:=[.slice p.s.a p.s.n p.s.cap,.int .i64 p.came,.int .i64 p.safe]
theorem Pc.len (p:Pc):p.cells.length=3:=rfl
theorem Pc.one (p:Pc):∀ u∈p.cells,u.oneCell'=true:=by
 intro u hu
 simp only[Pc.cells,List.mem_cons,List.not_mem_nil,or_false] at hu
 rcases hu with rfl|rfl|rfl <;> rfl
structure Chg where
 at_:Int
 name:ByteArray
 old:ByteArray
 f:Option Nat
def WC (f:Option Nat):Value:=.pointer (f.map fun b=>⟨b,0,none⟩)
def Chg.cells (c:Chg):List Value:=[.int .i64 c.at_,.string c.name,.string c.old,WC c.f]
theorem Chg.len (p:Chg):p.cells.length=4:=rfl
theorem Chg.one (p:Chg):∀ u∈p.cells,u.oneCell'=true:=by
 intro u hu
 simp only[Chg.cells,List.mem_cons,List.not_mem_nil,or_false] at hu
 rcases hu with rfl|rfl|rfl|rfl <;> rfl
structure PcA where
 bs:List UInt8
 came:Int
 safe:Int
def Z0X (base:Nat) (w:World) (q:Pc) (p:PcA):Prop:=Own u8c 1 5 base w q.s.val p.bs∧q.came=p.came∧q.safe=p.safe
def ZQ (ps:List PcA):Nat:=(ps.map (·.bs.length)).sum
def Wu (base:Nat) (w:World) (fb:Nat) (v:Value) (ps:List PcA):Prop :=
 base≤fb∧w.heap[fb]?=some (.cells #[v,.int .i64 (ZQ ps)] 124 (0,0)) ∧
  ∃ qs:List Pc,Own Pc.cells 3 131 base w v qs∧qs.length=ps.length∧∀ (i:Nat) q p,qs[i]?=some q→ps[i]?=some p→Z0X base w q p
structure Z4 where
 files:List (ByteArray × Nat)
 base:List (ByteArray × Nat)
 chg:List Chg
 syn:List Int
 now:Int
 ids:List Nat
 fs:Nat→List PcA
structure Z4.Ok (A:Z4):Prop where
 inf:∀ n f,(n,f)∈A.files→f∈A.ids∧n.size≤8
 inb:∀ n f,(n,f)∈A.base→f∈A.ids∧n.size≤8
 inc:∀ c∈A.chg,∀ f,c.f=some f→f∈A.ids∧c.name.size≤8
 sz:∀ f∈A.ids,ZQ (A.fs f)≤1048576
structure Z4.Small (A:Z4) (n:Nat):Prop where
 now0:0≤A.now
 now:A.now≤n
 chg:A.chg.length≤n
 syn:A.syn.length≤n
 pcs:∀ f∈A.ids,(A.fs f).length≤n+1
 fil:A.files.length≤n
def VB (f:Nat):Value:=.pointer (some ⟨f,0,none⟩)
structure DSh where
 pb:Nat
 mf:Nat
 mb:Nat
 vc:Value
 vs:Value
 rv:Nat→Value
structure Zd (base:Nat) (w:World) (D:DSh) (A:Z4):Prop where
 blk:w.heap[D.pb]?=some (.cells #[.map (some D.mf),.map (some D.mb),D.vc,D.vs,.int .i64 A.now] 118 (0,0))
 lo:base≤D.pb
 lof:base≤D.mf
 lob:base≤D.mb
 ne:D.mf≠D.mb
 mfiles:ZI Value.string VB w D.mf A.files
 mbase:ZI Value.string VB w D.mb A.base
 ochg:Own Chg.cells 4 126 base w D.vc A.chg
 osyn:Own Zh 1 3 base w D.vs A.syn
 file:∀ f,f∈A.ids→Wu base w f (D.rv f) (A.fs f)
 apart:∀ f g,f∈A.ids→g∈A.ids→f≠g→∀ b,(D.rv f).ownBlock=some b→(D.rv g).ownBlock≠some b
 ok:A.Ok
theorem Xd (w:World) (r i:Nat) (v:Value):Ext (·=r) w (w.setCell ⟨r,i,none⟩ v):=(Ext.refl (fun k=>k=r) w).setCell (p:=⟨r,i,none⟩) (.inr rfl) v
def YD (w:World) (b:Nat):Option TypeId:=match w.heap[b]? with|some (.cells _ T _)=>some T|_=>none
theorem YU {w:World} {b:Nat} {c:Array Value} {T:TypeId} {q:Nat × Nat} (h:w.heap[b]?=some (.cells c T q)):YD w b=some T:=by simp[YD,h]
theorem Zj {α:Type} {ea:α→List Value} {k:Nat} {e:TypeId} {base:Nat} {w:World} {v:Value} {l:List α} (h:Own ea k e base w v l) {b:Nat} (hb:v.ownBlock=some b):YD w b=some e:=by
 obtain ⟨c,hc⟩:=h.tag hb
 exact YU hc
theorem Wp {w:World} {b:Nat} {K V:Type} [DecidableEq K] {ek:K→Value} {ev:V→Value} {l:List (K × V)} (h:ZI ek ev w b l):YD w b=none:=by
 obtain ⟨_,es,cl,h2,_⟩:=h
 simp[YD,h2]
theorem Vn {w:World} {b:Nat} {T:TypeId} (h:YD w b=some T):b<w.heap.size:=by
 unfold YD at h
 cases hb:w.heap[b]? with
 | none=>rw[hb] at h;cases h
 | some o=>exact (Array.getElem?_eq_some_iff.1 hb).1
theorem ZK {w:World} {a b:Nat} {x y:Option TypeId} (h:YD w a=x) (k:YD w b=y) (hxy:x≠y):a≠b:=by
 rintro rfl
 exact hxy (h.symm.trans k)
def Wo (D:DSh) (A:Z4) (b:Nat):Prop :=
 b=D.pb∨b=D.mf∨b=D.mb∨D.vc.ownBlock=some b∨D.vs.ownBlock=some b∨∃ f∈A.ids,b=f∨(D.rv f).ownBlock=some b
section
variable {base:Nat} {w w':World} {D:DSh} {A:Z4} {S:Nat→Prop}
theorem Z0X.ext {q:Pc} {p:PcA} (h:Z0X base w q p) (hx:Ext S w w') (hn:∀ b,base≤b→YD w b=some 5→¬ S b):Z0X base w' q p :=
 ⟨h.1.ext hx (fun b hb=>hn b (h.1.blk b hb).1 (Zj h.1 hb)),h.2⟩
theorem Wu.tag {fb:Nat} {v:Value} {ps:List PcA} (h:Wu base w fb v ps):YD w fb=some 124:=YU h.2.1
theorem Wu.row {fb:Nat} {v:Value} {ps:List PcA} (h:Wu base w fb v ps) {b:Nat} (hb:v.ownBlock=some b):YD w b=some 131∧base≤b:=by
 obtain ⟨_,_,qs,ho,_⟩:=h
 exact ⟨Zj ho hb,(ho.blk b hb).1⟩
theorem Wu.lt {fb:Nat} {v:Value} {ps:List PcA} (h:Wu base w fb v ps):fb<w.heap.size:=Vn h.tag
theorem Wu.ext {fb:Nat} {v:Value} {ps:List PcA} (h:Wu base w fb v ps) (hx:Ext S w w') (h1:¬ S fb) (h2:∀ b,v.ownBlock=some b→¬ S b) (h3:∀ b,base≤b→YD w b=some 5→¬ S b):Wu base w' fb v ps:=by
 obtain ⟨hl,hb,qs,ho,hn,hp⟩:=h
 exact ⟨hl,(hx.block fb (Array.getElem?_eq_some_iff.1 hb).1 h1).trans hb,qs,ho.ext hx h2,hn,fun i q p hq hp'=>(hp i q p hq hp').ext hx h3⟩
theorem Zd.tpb (h:Zd base w D A):YD w D.pb=some 118:=YU h.blk
theorem Zd.lpb (h:Zd base w D A):D.pb<w.heap.size:=Vn h.tpb
theorem Zd.lmf (h:Zd base w D A):D.mf<w.heap.size:=h.mfiles.lt
theorem Zd.lmb (h:Zd base w D A):D.mb<w.heap.size:=h.mbase.lt
theorem Zd.foot (h:Zd base w D A) {b:Nat} (hb:Wo D A b):base≤b∧b<w.heap.size∧YD w b≠some 5:=by
 rcases hb with rfl|rfl|rfl|hb|hb|⟨f,hf,rfl|hb⟩
 ·exact ⟨h.lo,h.lpb,by rw[h.tpb];decide⟩
 ·exact ⟨h.lof,h.lmf,by rw[Wp h.mfiles];decide⟩
 ·exact ⟨h.lob,h.lmb,by rw[Wp h.mbase];decide⟩
 ·exact ⟨(h.ochg.blk b hb).1,(h.ochg.blk b hb).2,by rw[Zj h.ochg hb];decide⟩
 ·exact ⟨(h.osyn.blk b hb).1,(h.osyn.blk b hb).2,by rw[Zj h.osyn hb];decide⟩
 ·exact ⟨(h.file b hf).1,(h.file b hf).lt,by rw[(h.file b hf).tag];decide⟩
 ·exact ⟨((h.file f hf).row hb).2,Vn ((h.file f hf).row hb).1,by rw[((h.file f hf).row hb).1];decide⟩
theorem Zd.ext (h:Zd base w D A) (hx:Ext S w w') (hn:∀ b,Wo D A b→¬ S b) (hu:∀ b,base≤b→YD w b=some 5→¬ S b):Zd base w' D A where
 blk:=(hx.block _ h.lpb (hn _ (.inl rfl))).trans h.blk
 lo:=h.lo
 lof:=h.lof
 lob:=h.lob
 ne:=h.ne
 mfiles:=h.mfiles.ext hx (hn _ (.inr (.inl rfl)))
 mbase:=h.mbase.ext hx (hn _ (.inr (.inr (.inl rfl))))
 ochg:=h.ochg.ext hx (fun b hb=>hn b (.inr (.inr (.inr (.inl hb)))))
 osyn:=h.osyn.ext hx (fun b hb=>hn b (.inr (.inr (.inr (.inr (.inl hb))))))
 file f hf:=(h.file f hf).ext hx (hn _ (.inr (.inr (.inr (.inr (.inr ⟨f,hf,.inl rfl⟩)))))) (fun b hb=>hn b (.inr (.inr (.inr (.inr (.inr ⟨f,hf,.inr hb⟩)))))) hu
 apart:=h.apart
 ok:=h.ok
theorem Zd.below (h:Zd base w D A) (hx:Below w.heap.size w w'):Zd base w' D A :=
 h.ext (Ext.of_below (S:=fun _=>False) hx) (fun _ _=>id) (fun _ _ _=>id)
theorem Zd.alloc (h:Zd base w D A) (o:Obj):Zd base (w.alloc o) D A:=h.below ((Below.refl _ _).alloc (Nat.le_refl _) o)
theorem Zd.head (h:Zd base w D A) (hx:Ext S w w') (hS:∀ b,b<w.heap.size→S b→b=D.pb∨D.vc.ownBlock=some b∨D.vs.ownBlock=some b) {vc vs:Value} {chg:List Chg} {syn:List Int} {now:Int}
  (hb:w'.heap[D.pb]?=some (.cells #[.map (some D.mf),.map (some D.mb),vc,vs,.int .i64 now] 118 (0,0)))
  (hc:Own Chg.cells 4 126 base w' vc chg) (hs:Own Zh 1 3 base w' vs syn) (hok:∀ c∈chg,∀ f,c.f=some f→f∈A.ids∧c.name.size≤8) :
  Zd base w' { D with vc:=vc,vs:=vs } { A with chg:=chg,syn:=syn,now:=now }:=by
 have key:∀ b T,YD w b=T→T≠some 118→T≠some 126→T≠some 3→b<w.heap.size→¬ S b:=by
  intro b T ht h1 h2 h3 hl hsb
  rcases hS b hl hsb with rfl|e|e
  ·exact h1 (ht.symm.trans h.tpb)
  ·exact h2 (ht.symm.trans (Zj h.ochg e))
  ·exact h3 (ht.symm.trans (Zj h.osyn e))
 exact {
  blk:=hb
  lo:=h.lo
  lof:=h.lof
  lob:=h.lob
  ne:=h.ne
  mfiles:=h.mfiles.ext hx (key _ _ (Wp h.mfiles) (by decide) (by decide) (by decide) h.lmf)
  mbase:=h.mbase.ext hx (key _ _ (Wp h.mbase) (by decide) (by decide) (by decide) h.lmb)
  ochg:=hc
  osyn:=hs
  file:=fun f hf=>(h.file f hf).ext hx (key _ _ (h.file f hf).tag (by decide) (by decide) (by decide) (h.file f hf).lt)
   (fun b hb=>key _ _ ((h.file f hf).row hb).1 (by decide) (by decide) (by decide) (Vn ((h.file f hf).row hb).1)) (fun b hb ht=>key _ _ ht (by decide) (by decide) (by decide) (Vn ht))
  apart:=h.apart
  ok:=⟨h.ok.inf,h.ok.inb,hok,h.ok.sz⟩ }
theorem Zd.names (h:Zd base w D A) (hx:Ext (·=D.mf) w w') {files:List (ByteArray × Nat)} (hm:ZI Value.string VB w' D.mf files) (hok:∀ n f,(n,f)∈files→f∈A.ids∧n.size≤8) :
  Zd base w' D { A with files:=files }:=by
 have key:∀ b T,YD w b=some T→¬ b=D.mf:=fun b T ht=>ZK ht (Wp h.mfiles) (by simp)
 exact {
  blk:=(hx.block _ h.lpb (key _ _ h.tpb)).trans h.blk
  lo:=h.lo
  lof:=h.lof
  lob:=h.lob
  ne:=h.ne
  mfiles:=hm
  mbase:=h.mbase.ext hx (fun e=>h.ne e.symm)
  ochg:=h.ochg.ext hx (fun b hb=>key _ _ (Zj h.ochg hb))
  osyn:=h.osyn.ext hx (fun b hb=>key _ _ (Zj h.osyn hb))
  file:=fun f hf=>(h.file f hf).ext hx (key _ _ (h.file f hf).tag) (fun b hb=>key _ _ ((h.file f hf).row hb).1) (fun b hb ht=>key _ _ ht)
  apart:=h.apart
  ok:=⟨hok,h.ok.inb,h.ok.inc,h.ok.sz⟩ }
theorem Zd.turn (h:Zd base w D A) (hx:Ext S w w') {f:Nat} (hf:f∈A.ids) (hS:∀ b,b<w.heap.size→S b→b=f∨(D.rv f).ownBlock=some b) {v:Value} {ps:List PcA} (hi:Wu base w' f v ps)
  (hv:∀ b,v.ownBlock=some b→(D.rv f).ownBlock=some b∨w.heap.size≤b) (hz:ZQ ps≤1048576) :
  Zd base w' { D with rv:=fun g=>if g=f then v else D.rv g } { A with fs:=fun g=>if g=f then ps else A.fs g }:=by
 have key:∀ b T,YD w b=T→T≠some 124→T≠some 131→b<w.heap.size→¬ S b:=by
  intro b T ht h1 h2 hl hsb
  rcases hS b hl hsb with rfl|e
  ·exact h1 (ht.symm.trans (h.file b hf).tag)
  ·exact h2 (ht.symm.trans ((h.file f hf).row e).1)
 refine {
  blk:=(hx.block _ h.lpb (key _ _ h.tpb (by decide) (by decide) h.lpb)).trans h.blk
  lo:=h.lo
  lof:=h.lof
  lob:=h.lob
  ne:=h.ne
  mfiles:=h.mfiles.ext hx (key _ _ (Wp h.mfiles) (by decide) (by decide) h.lmf)
  mbase:=h.mbase.ext hx (key _ _ (Wp h.mbase) (by decide) (by decide) h.lmb)
  ochg:=h.ochg.ext hx (fun b hb=>key _ _ (Zj h.ochg hb) (by decide) (by decide) (h.ochg.blk b hb).2)
  osyn:=h.osyn.ext hx (fun b hb=>key _ _ (Zj h.osyn hb) (by decide) (by decide) (h.osyn.blk b hb).2)
  file:=fun g hg=>?_
  apart:=fun g k hg hk hne b hb hb'=>?_
  ok:=⟨h.ok.inf,h.ok.inb,h.ok.inc,fun g hg=>?_⟩ }
 ·dsimp only
  split
  ·rename_i e;subst e;exact hi
  ·rename_i e
   refine (h.file g hg).ext hx (fun hs=>?_) (fun b hb hs=>?_) (fun b hb ht=>key _ _ ht (by decide) (by decide) (Vn ht))
   ·rcases hS g (h.file g hg).lt hs with e2|e2
    ·exact e e2
    ·exact ZK (h.file g hg).tag ((h.file f hf).row e2).1 (by decide) rfl
   ·rcases hS b (Vn ((h.file g hg).row hb).1) hs with rfl|e2
    ·exact ZK ((h.file g hg).row hb).1 (h.file b hf).tag (by decide) rfl
    ·exact h.apart g f hg hf e b hb e2
 ·dsimp only at hb hb'
  have old:∀ g,g∈A.ids→g≠f→∀ b,(D.rv g).ownBlock=some b→v.ownBlock=some b→False:=fun g hg hgf b hb hvb=>by
   rcases hv b hvb with e|e
   ·exact h.apart g f hg hf hgf b hb e
   ·have:=Vn ((h.file g hg).row hb).1;omega
  split at hb
  ·rename_i e1
   rw[if_neg (fun e2=>hne (e1.trans e2.symm))] at hb'
   exact old k hk (fun e2=>hne (e1.trans e2.symm)) b hb' hb
  ·rename_i e1
   split at hb'
   ·exact old g hg e1 b hb hb'
   ·exact h.apart g k hg hk hne b hb hb'
 ·dsimp only
  split
  ·exact hz
  ·exact h.ok.sz g hg
theorem Zd.born (h:Zd base w D A) (hl:base≤w.heap.size):Zd base (w.alloc (.cells #[.slice none 0 0,.int .i64 0] 124)) { D with rv:=fun g=>if g=w.heap.size then .slice none 0 0 else D.rv g } { A with ids:=w.heap.size :: A.ids,fs:=fun g=>if g=w.heap.size then [] else A.fs g }:=by
 have h2:=h.alloc (.cells #[.slice none 0 0,.int .i64 0] 124)
 have hn:∀ f∈A.ids,f≠w.heap.size:=fun f hf=>Nat.ne_of_lt (h.file f hf).lt
 refine { h2 with file:=fun g hg=>?_,apart:=fun g k hg hk hne b hb hb'=>?_,ok:=?_ }
 ·rcases List.mem_cons.1 hg with rfl|hg
  ·dsimp only
   rw[if_pos rfl,if_pos rfl]
   exact ⟨hl,(MapKept.heap_alloc w _).1,[],Own.nil,rfl,fun i q p hq=>by simp at hq⟩
  ·dsimp only
   rw[if_neg (hn g hg),if_neg (hn g hg)]
   exact h2.file g hg
 ·dsimp only at hb hb'
  rcases List.mem_cons.1 hg with rfl|hg
  ·rw[if_pos rfl] at hb;cases hb
  ·rcases List.mem_cons.1 hk with rfl|hk
   ·rw[if_pos rfl] at hb';cases hb'
   ·rw[if_neg (hn g hg)] at hb
    rw[if_neg (hn k hk)] at hb'
    exact h.apart g k hg hk hne b hb hb'
 ·refine ⟨fun n f hf=>⟨List.mem_cons_of_mem _ (h.ok.inf n f hf).1,(h.ok.inf n f hf).2⟩,fun n f hf=>⟨List.mem_cons_of_mem _ (h.ok.inb n f hf).1,(h.ok.inb n f hf).2⟩,fun c hc f hf=>⟨List.mem_cons_of_mem _ (h.ok.inc c hc f hf).1,(h.ok.inc c hc f hf).2⟩,fun g hg=>?_⟩
  rcases List.mem_cons.1 hg with rfl|hg
  ·dsimp only
   rw[if_pos rfl]
   simp[ZQ]
  ·dsimp only
   rw[if_neg (hn g hg)]
   exact h.ok.sz g hg
end
structure Zl (base:Nat) (w:World) (D:DSh) (A:Z4) (w':World) (D':DSh) (A':Z4):Prop where
 is_:Zd base w' D' A'
 pb:D'.pb=D.pb
 ext:Ext (Wo D A) w w'
 foot:∀ b,Wo D' A' b→Wo D A b∨w.heap.size≤b
theorem Zl.refl {base:Nat} {w:World} {D:DSh} {A:Z4} (h:Zd base w D A):Zl base w D A w D A:=⟨h,rfl,Ext.refl _ _,fun _ hb=>.inl hb⟩
theorem Zl.trans {base:Nat} {w1 w2 w3:World} {D1 D2 D3:DSh} {A1 A2 A3:Z4} (h:Zl base w1 D1 A1 w2 D2 A2) (k:Zl base w2 D2 A2 w3 D3 A3):Zl base w1 D1 A1 w3 D3 A3 where
 is_:=k.is_
 pb:=k.pb.trans h.pb
 ext:=h.ext.andThen k.ext (fun b hb hf=>(h.foot b hf).resolve_right (by omega))
 foot b hb:=by
  rcases k.foot b hb with e|e
  ·exact h.foot b e
  ·exact .inr (Nat.le_trans h.ext.size e)
theorem Zl.below {base:Nat} {w w':World} {D:DSh} {A:Z4} (h:Zd base w D A) (hb:Below w.heap.size w w'):Zl base w D A w' D A:=⟨h.below hb,rfl,Ext.of_below hb,fun _ hb=>.inl hb⟩
theorem Zl.frame {base B:Nat} {w0 w w':World} {D D':DSh} {A A':Z4} (h:Zl base w D A w' D' A') (hi:Zd base w D A) (hb:Below B w0 w) (hB:B≤base) (hs:B≤w.heap.size):Below B w0 w' :=
 Ext.new hb h.ext (fun i hi' _ hp=>by have:=(hi.foot hp).1;omega) hs
section
variable {P:Program} {w:World} {α:Type} {ea:α→List Value} {k:Nat} {e:TypeId} {base:Nat} {v:Value} {l:List α}
theorem Z0B (t ty:TypeId) (i:TypeInfo) (z:Value) (size bytes:Nat) (ht:P.underlying t=some (.slice e)) (hi:P.info? e=some i) (hz:i.zero=some z)
  (hsize:i.size=size) (hby:i.bytes=bytes) (v:Value) (n:Nat) (xs:List Value) (hown:w.ownsRow base e size v n xs)
  (a:Addr) (m c:Nat) (news:List Value) (hl:news.length=m*size) (hnews:∀ j u,news[j]?=some u→w.cell? (a.add j)=some u) (h1:∀ u∈news,u.oneCell'=true)
  (h63:n+m≤maxLen) (hbytes:(n+m)*bytes≤140737488355328) (hm:0<m) {v':Value} {w':World}
  (hr:(Builtin.append_ #[t,t] ty #[v,.slice (some a) m c]).run P w=.ok v' w'):∀ b,v'.ownBlock=some b→v.ownBlock=some b∨w.heap.size≤b:=by
 subst hsize
 subst hby
 have hsmall:n+m≤9223372036854775807:=by simp only[maxLen] at h63;omega
 rcases hown.2 with ⟨rfl,rfl⟩|⟨g,cap,cur,rfl,hbg,hg,hnc,hcm,hcs,htake⟩
 ·have hr2:=run_append_nil (P:=P) w t ty e i z ht hi hz a m c news hl hnews hm (by omega) (by have hb:=hbytes;simp only[Nat.zero_add] at hb;omega)
  rw[hr] at hr2
  cases hr2
  intro b hb
  simp[Value.ownBlock] at hb
  exact .inr (by omega)
 ·by_cases hroom:n+m≤cap
  ·have hfit:n*i.size+news.length≤cur.size:=by rw[hl,hcs,←Nat.add_mul];exact Nat.mul_le_mul_right _ hroom
   have hr2:=run_append_room (P:=P) w t ty e i ht hi g n cap cur hg a m c news hl hnews h1 hroom hfit
   rw[hr] at hr2
   cases hr2
   intro b hb
   simp[Value.ownBlock] at hb ⊢
   exact .inl hb
  ·have holds:∀ j u,xs[j]?=some u→w.cell? ((⟨g,0,none⟩:Addr).add j)=some u:=hown.cells (g:=g) rfl
   have hr2:=run_append_grow (P:=P) w t ty e i z ht hi hz ⟨g,0,none⟩ n cap xs hown.1 holds a m c news hl hnews (by omega) (by omega) (growslice_fits (by omega) hbytes)
   rw[hr] at hr2
   cases hr2
   intro b hb
   simp[Value.ownBlock] at hb
   exact .inr (by omega)
theorem Wj (t ty:TypeId) (i:TypeInfo) (z:Value) (bytes:Nat) (ht:P.underlying t=some (.slice e)) (hi:P.info? e=some i) (hz:i.zero=some z)
  (hsize:i.size=k) (hby:i.bytes=bytes) (hzs:z.cells.size=k) (hk0:0<k) (hk:∀ x,(ea x).length=k) (h1:∀ x,∀ u∈ea x,u.oneCell'=true)
  (hown:Own ea k e base w v l) (y:α) (nb c:Nat) (hnews:∀ j u,(ea y)[j]?=some u→w.cell? ⟨nb,j,none⟩=some u)
  (h63:l.length+1≤maxLen) (hbytes:(l.length+1)*bytes≤140737488355328) (hbase:base≤w.heap.size) :
  ∃ v' w',(Builtin.append_ #[t,t] ty #[v,.slice (some ⟨nb,0,none⟩) 1 c]).run P w=.ok v' w'∧Own ea k e base w' v' (l++[y])∧Ext (fun b=>v.ownBlock=some b) w w' ∧
   ∀ b,v'.ownBlock=some b→v.ownBlock=some b∨w.heap.size≤b:=by
 have hn:∀ j u,(ea y)[j]?=some u→w.cell? (Addr.add ⟨nb,0,none⟩ j)=some u:=fun j u hj=>by
  rw[show (Addr.add ⟨nb,0,none⟩ j)=⟨nb,j,none⟩ from by unfold Addr.add;split <;> simp_all]
  exact hnews j u hj
 obtain ⟨v',w',hr,h2,h3,_⟩:=run_append_own (P:=P) w base t ty e i z k bytes ht hi hz hsize hby hzs hk0 v l.length (l.flatMap ea) hown ⟨nb,0,none⟩ 1 c (ea y) (by rw[hk,Nat.one_mul]) hn (h1 y) h63 hbytes hbase
 refine ⟨v',w',hr,?_,Ext.of_grown h3,Z0B t ty i z k bytes ht hi hz hsize hby v l.length (l.flatMap ea) hown ⟨nb,0,none⟩ 1 c (ea y) (by rw[hk,Nat.one_mul]) hn (h1 y) h63 hbytes (by omega) hr⟩
 unfold Own
 rw[List.length_append,List.flatMap_append]
 simpa using h2
theorem ZD {ops:Array Oper} {rest:List Oper} {o:Oper} {a:Act} {Q:Exit→Act→World→Prop} (hgd:o.guard=none) (s x:Operand) (t:TypeId)
  (ho:o.op=.call { callee:=.builtin .append,args:=#[s,x],argTypes:=#[t,t] })
  (i:TypeInfo) (z:Value) (bytes:Nat) (ht:P.underlying t=some (.slice e)) (hi:P.info? e=some i) (hz:i.zero=some z)
  (hsize:i.size=k) (hby:i.bytes=bytes) (hzs:z.cells.size=k) (hk0:0<k) (hk:∀ x,(ea x).length=k) (h1:∀ x,∀ u∈ea x,u.oneCell'=true)
  (hs:a.eval s=v) (hown:Own ea k e base w v l) (y:α) (nb c:Nat) (hx:a.eval x=.slice (some ⟨nb,0,none⟩) 1 c) (hnews:∀ j u,(ea y)[j]?=some u→w.cell? ⟨nb,j,none⟩=some u)
  (h63:l.length+1≤maxLen) (hbytes:(l.length+1)*bytes≤140737488355328) (hbase:base≤w.heap.size)
  (h:∀ v' w',Own ea k e base w' v' (l++[y])→Ext (fun b=>v.ownBlock=some b) w w'→(∀ b,v'.ownBlock=some b→v.ownBlock=some b∨w.heap.size≤b)→wpList P ops Q rest (a.put o.dst v') w'):wpList P ops Q (o :: rest) a w:=by
 obtain ⟨v',w',hr,h2,h3,h4⟩:=Wj (P:=P) t o.type i z bytes ht hi hz hsize hby hzs hk0 hk h1 hown y nb c hnews h63 hbytes hbase
 refine wpList_plain hgd fun _ hK=>?_
 unfold Oper.wp execOp
 simp only[ho,resolve,invoke,builtin,Sem.run_bind,Sem.run_pure,Result.andThen_ok,List.map_toArray,List.map_cons,List.map_nil,hs,hx,hr]
 exact hK _ _ (h v' w' h2 h3 h4)
theorem WL {ops:Array Oper} {o:Oper} {a:Act} {K:Act→World→Prop} {Q:Exit→Act→World→Prop} {E:Prop} (hgd:o.guard=none) (s x:Operand) (t:TypeId)
  (ho:o.op=.call { callee:=.builtin .append,args:=#[s,x],argTypes:=#[t,t] })
  (i:TypeInfo) (z:Value) (bytes:Nat) (ht:P.underlying t=some (.slice e)) (hi:P.info? e=some i) (hz:i.zero=some z)
  (hsize:i.size=k) (hby:i.bytes=bytes) (hzs:z.cells.size=k) (hk0:0<k) (hk:∀ x,(ea x).length=k) (h1:∀ x,∀ u∈ea x,u.oneCell'=true)
  (hs:a.eval s=v) (hown:Own ea k e base w v l) (y:α) (nb c:Nat) (hx:a.eval x=.slice (some ⟨nb,0,none⟩) 1 c) (hnews:∀ j u,(ea y)[j]?=some u→w.cell? ⟨nb,j,none⟩=some u)
  (h63:l.length+1≤maxLen) (hbytes:(l.length+1)*bytes≤140737488355328) (hbase:base≤w.heap.size)
  (h:∀ v' w',Own ea k e base w' v' (l++[y])→Ext (fun b=>v.ownBlock=some b) w w'→(∀ b,v'.ownBlock=some b→v.ownBlock=some b∨w.heap.size≤b)→K (a.put o.dst v') w'):if Region.wanted o (yielded ops a.tmps)=true then Oper.wp P o a w K Q else E:=by
 have hw:Region.wanted o (yielded ops a.tmps)=true:=by simp[Region.wanted,hgd]
 rw[if_pos hw]
 obtain ⟨v',w',hr,h2,h3,h4⟩:=Wj (P:=P) t o.type i z bytes ht hi hz hsize hby hzs hk0 hk h1 hown y nb c hnews h63 hbytes hbase
 unfold Oper.wp execOp
 simp only[ho,resolve,invoke,builtin,Sem.run_bind,Sem.run_pure,Result.andThen_ok,List.map_toArray,List.map_cons,List.map_nil,hs,hx,hr]
 exact h v' w' h2 h3 h4
theorem Z5W {ops:Array Oper} {o:Oper} {a:Act} {K:Act→World→Prop} {Q:Exit→Act→World→Prop} {E:Prop} {f:FuncId} {args:Array Value} (hgd:o.guard=none)
  (hv:(execOp a.eval o).run P w=.ok (.enter f args) w) (h:Calls P f args w fun e w'=>∃ v,e=.returned v∧K (a.put o.dst v) w'):if Region.wanted o (yielded ops a.tmps)=true then Oper.wp P o a w K Q else E:=by
 have hw:Region.wanted o (yielded ops a.tmps)=true:=by simp[Region.wanted,hgd]
 rw[if_pos hw,Oper.wp,hv,Oper.upon_enter]
 refine Calls.mono h ?_
 rintro e w'' ⟨v,rfl,h1⟩
 exact h1
end
end Go.Proofs.YtgmdimbiipemhaaGreatDoor
namespace Go.Proofs.YtgmdimbiipemhaaGreatDoor
open Go.RowKit Go.Deep
theorem VH:Tryz.prog.underlying 115=some (.map 9 120):=by kernel_rfl
theorem R1 (w:World):(zeroValue 120).run Tryz.prog w=.ok (.pointer none) w:=by kernel_rfl
def ZZ (c:Chg) (l:List (ByteArray × Nat)):List (ByteArray × Nat) :=
 match c.f with
 | none=>XA l c.old
 | some f=>Xo (XA l c.old) c.name f
attribute [local go_sem] ZI.alloc ZI.drew ZI.setCell
attribute [local go_sem] Z3R Z2c Q6 Z3G Z3E Z2b Qa Z3M
theorem Z5F (c:Chg) (mf:Nat) (l:List (ByteArray × Nat)) (w:World) (h:ZI Value.string VB w mf l) :
  Calls Tryz.prog 118 #[.agg #[.int .i64 c.at_,.string c.name,.string c.old,WC c.f],.map (some mf)] w fun e w' =>
   e=.returned (.tuple #[])∧ZI Value.string VB w' mf (ZZ c l)∧Ext (·=mf) w w':=by
 obtain ⟨cat,nm,od,f⟩:=c
 have hdel:∀ W,ZI Value.string VB W mf l→(Builtin.delete_ #[115,9] 0 #[.map (some mf),.string od]).run Tryz.prog W=.ok (.tuple #[]) (YQ W mf (YA l od)) :=
  fun W hW=>hW.delete VR VH od
 have h1:ZI Value.string VB (w.alloc (.cells #[.int .i64 cat,.string nm,.string od,WC f] 126)) mf l:=h.alloc _
 have h2:=h1.del od
 have hx:Ext (·=mf) w (YQ (w.alloc (.cells #[.int .i64 cat,.string nm,.string od,WC f] 126)) mf (YA l od)):=((Ext.refl (fun x=>x=mf) w).alloc _).mapDel (.inl rfl) _
 cases f with
 | none =>
  unfold WC at *
  simp only[Option.map_none] at *
  go_enter Tryz.func118,Tryz.ntmps118
  go_wp2
  go_end0
  exact ⟨rfl,h2,hx⟩
 | some f =>
  have hu:∀ W,ZI Value.string VB W mf (XA l od)→(Instr.mapUpdate 115 (.map (some mf)) (.string nm) (.pointer (some ⟨f,0,none⟩))).run Tryz.prog W=.ok () (YX W mf (YA (XA l od) nm) (.string nm) (VB f)) :=
   fun W hW=>hW.update VR VH nm (VB f)
  unfold WC at *
  simp only[Option.map_some] at *
  have h3:=h2.put nm f
  have hx3:=hx.mapPut (b:=mf) (.inl rfl) (YA (XA l od) nm) (.string nm) (VB f)
  go_enter Tryz.func118,Tryz.ntmps118
  go_wp2
  go_end0
  exact ⟨rfl,h3,hx3⟩
def Ry:Z4:=⟨[],[],[],[],0,[],fun _=>[]⟩
theorem Z4q {base:Nat} (w:World) (hb:base≤w.heap.size):Calls Tryz.prog 28 #[] w fun e w' =>
  ∃ D:DSh,e=.returned (.pointer (some ⟨D.pb,0,none⟩))∧Zd base w' D Ry∧Below w.heap.size w w'∧∀ b,Wo D Ry b→w.heap.size≤b:=by
 have hmm:=@run_makeMap Tryz.prog
 have h1:ZI Value.string VB (w.alloc (.map #[] 0)) w.heap.size ([]:List (ByteArray × Nat)):=ZI.made w
 have h2:ZI Value.string VB ((w.alloc (.map #[] 0)).alloc (.map #[] 0)) (w.heap.size+1) ([]:List (ByteArray × Nat)):=by
  have:=ZI.made (ek:=Value.string) (ev:=VB) (w.alloc (.map #[] 0))
  rwa [World.size_alloc] at this
 have hB:=(((Below.refl w.heap.size w).alloc (Nat.le_refl _) (.map #[] 0)).alloc (by simp) (.map #[] 0)).alloc (by simp;omega) (.cells #[.map (some w.heap.size),.map (some (w.heap.size+1)),.slice none 0 0,.slice none 0 0,.int .i64 0] 118)
 go_enter Tryz.func28,Tryz.ntmps28
 go_wp2
 go_ret
 refine ⟨⟨w.heap.size+2,w.heap.size,w.heap.size+1,.slice none 0 0,.slice none 0 0,fun _=>.slice none 0 0⟩,rfl,?_,hB,?_⟩
 ·exact {
   blk:=by
    have:=(MapKept.heap_alloc ((w.alloc (.map #[] 0)).alloc (.map #[] 0)) (.cells #[.map (some w.heap.size),.map (some (w.heap.size+1)),.slice none 0 0,.slice none 0 0,.int .i64 0] 118)).1
    simp only[World.size_alloc] at this
    exact this
   lo:=by dsimp only;omega
   lof:=by dsimp only;omega
   lob:=by dsimp only;omega
   ne:=by dsimp only;omega
   mfiles:=(h1.alloc _).alloc _
   mbase:=h2.alloc _
   ochg:=Own.nil
   osyn:=Own.nil
   file:=fun f hf=>by cases hf
   apart:=fun f g hf=>by cases hf
   ok:=⟨fun n f hf=>(by cases hf),fun n f hf=>(by cases hf),fun c hc=>(by cases hc),fun g hg=>(by cases hg)⟩ }
 ·intro b hb
  rcases hb with rfl|rfl|rfl|hb|hb|⟨f,hf,_⟩
  ·dsimp only;omega
  ·exact Nat.le_refl _
  ·dsimp only;omega
  ·cases hb
  ·cases hb
  ·cases hf
theorem Z40:(Tryz.prog.info? 126).map (fun i=>(i.zero,i.size,i.bytes))=some (some (.agg #[.int .i64 0,.string ⟨#[]⟩,.string ⟨#[]⟩,.pointer none]),4,48):=by kernel_rfl
theorem Z4E {c:Chg} {l:List (ByteArray × Nat)} {n:ByteArray} {g:Nat} (h:(n,g)∈ZZ c l):(n,g)∈l∨(n=c.name∧c.f=some g):=by
 unfold ZZ at h
 have hdel:∀ {x},x∈XA l c.old→x∈l:=fun hx=>(Sn l c.old).subset hx
 cases hf:c.f with
 | none=>rw[hf] at h;exact .inl (hdel h)
 | some f =>
  rw[hf] at h
  dsimp only at h
  cases hi:YA (XA l c.old) c.name with
  | none =>
   rw[SX hi] at h
   rcases List.mem_append.1 h with h|h
   ·exact .inl (hdel h)
   ·simp at h;exact .inr ⟨h.1,by rw[h.2]⟩
  | some i =>
   rw[Rg hi] at h
   rcases List.mem_or_eq_of_mem_set h with h|h
   ·exact .inl (hdel h)
   ·cases h;exact .inr ⟨rfl,rfl⟩
def ZH (c:Chg) (A:Z4):Z4:={ A with now:=A.now+1,chg:=A.chg++[{ c with at_:=A.now+1 }],files:=ZZ c A.files }
theorem Qw {base:Nat} {w:World} {D:DSh} {A:Z4} (h:Zd base w D A) (hbw:base≤w.heap.size) (c:Chg) (hc:∀ f,c.f=some f→f∈A.ids∧c.name.size≤8) (hn0:0≤A.now) (hn1:A.now≤1000000000) (hl:A.chg.length≤1000000000) :
  Calls Tryz.prog 69 #[.pointer (some ⟨D.pb,0,none⟩),.agg #[.int .i64 c.at_,.string c.name,.string c.old,WC c.f]] w fun e w' =>
   e=.returned (.tuple #[])∧∃ D',Zl base w D A w' D' (ZH c A):=by
 obtain ⟨i0,hi,hz0,hz1,hz2⟩:=info_parts Z40
 obtain ⟨cat,nm,od,f⟩:=c
 obtain ⟨pv,hpv⟩:=Je (WC f)
 rw[hpv]
 have HPV:=Lib.hid hpv
 clear hpv
 have HC:=Lib.hid hc
 clear hc
 dsimp only at HC ⊢
 have h1:=h.alloc (.cells #[.int .i64 cat,.string nm,.string od,pv] 126)
 have q0:(w.alloc (.cells #[.int .i64 cat,.string nm,.string od,pv] 126)).heap[w.heap.size]?=some (.cells #[.int .i64 cat,.string nm,.string od,pv] 126 (0,0)):=(MapKept.heap_alloc w _).1
 have hpb:=h.lpb
 have HX1:=Jh ((Ext.refl (Wo D A) w).alloc (.cells #[.int .i64 cat,.string nm,.string od,pv] 126))
 have HH0:=Lib.hid h
 have hs1:(w.alloc (.cells #[.int .i64 cat,.string nm,.string od,pv] 126)).heap.size=w.heap.size+1:=by simp
 obtain ⟨w1,hw1⟩:=Je (w.alloc (.cells #[.int .i64 cat,.string nm,.string od,pv] 126))
 rw[hw1] at h1 q0 hs1 HX1
 have p0:=h1.blk
 have p1:=Joins.block_setCell (i:=4) p0 (.int .i64 (A.now+1))
 have h2:Zd base (w1.setCell ⟨D.pb,4,none⟩ (.int .i64 (A.now+1))) D { A with now:=A.now+1 } :=
  h1.head (S:=(·=D.pb)) (Xd _ _ _ _) (fun b _ hb=>.inl hb) p1 (h1.ochg.ext (Xd _ _ _ _) (fun b hb e=>ZK (Zj h1.ochg hb) h1.tpb (by decide) e))
   (h1.osyn.ext (Xd _ _ _ _) (fun b hb e=>ZK (Zj h1.osyn hb) h1.tpb (by decide) e)) h1.ok.inc
 have q1:(w1.setCell ⟨D.pb,4,none⟩ (.int .i64 (A.now+1))).heap[w.heap.size]?=some (.cells #[.int .i64 cat,.string nm,.string od,pv] 126 (0,0)) :=
  ((Xd w1 D.pb 4 _).block _ (by omega) (by omega)).trans q0
 have HX2:=Jh (HX1.out.setCell (p:=⟨D.pb,4,none⟩) (.inr (.inl rfl)) (.int .i64 (A.now+1)))
 obtain ⟨w2,hw2⟩:=Je (w1.setCell ⟨D.pb,4,none⟩ (.int .i64 (A.now+1)))
 have hs2:w2.heap.size=w.heap.size+1:=by rw[←hw2,World.size_setCell,hs1]
 rw[hw2] at p1 h2 q1 HX2
 have q2:=Joins.block_setCell (i:=0) q1 (.int .i64 (A.now+1))
 have h3:Zd base (w2.setCell ⟨w.heap.size,0,none⟩ (.int .i64 (A.now+1))) D { A with now:=A.now+1 } :=
  h2.ext (Xd _ _ _ _) (fun b hb e=>by
   have h9:Wo D A b:=hb
   have:=(HH0.out.foot h9).2.1
   omega) (fun b hb ht e=>by rw[e,YU q1] at ht;cases ht)
 have HX3:=Jh (HX2.out.setCell (p:=⟨w.heap.size,0,none⟩) (.inl (Nat.le_refl _)) (.int .i64 (A.now+1)))
 obtain ⟨w3,hw3⟩:=Je (w2.setCell ⟨w.heap.size,0,none⟩ (.int .i64 (A.now+1)))
 have hs3:w3.heap.size=w.heap.size+1:=by rw[←hw3,World.size_setCell,hs2]
 rw[hw3] at h3 q2 HX3
 have k0:=Joins.cell_of_block p0 4
 have k1:=Joins.unfrozen_of_block p0 4
 have k2:=Joins.cell_of_block p1 4
 have k3:=Joins.cell_of_block q1 0
 have k4:=Joins.unfrozen_of_block q1 0
 have HP0:=Lib.hid p0
 have HP1:=Lib.hid p1
 have HQ1:=Lib.hid q1
 have HQ2:=Lib.hid q2
 have HH3:=Lib.hid h3
 clear h h1 h2 h3 p0 p1 q0 q1 q2
 simp only[List.getElem?_toArray,Array.getElem?_setIfInBounds,List.size_toArray,List.length_cons,List.length_nil,List.getElem?_cons_succ,List.getElem?_cons_zero,Nat.reduceAdd,Nat.reduceLT,if_true] at k0 k2 k3
 go_enter Tryz.func69,Tryz.ntmps69
 have HS3:=Lib.hid hs3
 have hbw3:base≤w3.heap.size:=by omega
 have hw0:w.heap.size<w3.heap.size:=by omega
 clear hs1 hs2 hs3
 go_upto_region 3 with fail
 clear k0 k1 k2 k3 k4 hw1 hw2 hw3 HP0 HP1 HQ1 HX1 HX2
 obtain ⟨va,vcap,hvc⟩:∃ va vcap,D.vc=.slice va A.chg.length vcap:=by
  rcases HH0.out.ochg.eq_slice with ⟨e,e2⟩|⟨g,c,e,_⟩
  ·exact ⟨none,0,by rw[e,e2];rfl⟩
  ·exact ⟨_,_,e⟩
 have b3:=HH3.out.blk
 have c2:=Joins.cell_of_block b3 2
 have c0:=Joins.cell_of_block b3 0
 have f2:=Joins.unfrozen_of_block b3 2
 have d0:=Joins.cell_of_block HQ2.out 0
 have d1:=Joins.cell_of_block HQ2.out 1
 have d2:=Joins.cell_of_block HQ2.out 2
 have d3:=Joins.cell_of_block HQ2.out 3
 simp only[List.getElem?_toArray,Array.getElem?_setIfInBounds,List.size_toArray,List.length_cons,List.length_nil,List.getElem?_cons_succ,List.getElem?_cons_zero,Nat.reduceAdd,Nat.reduceLT,if_true,hvc] at c2 c0 d0 d1 d2 d3
 try simp only[List.setIfInBounds_toArray,List.set_cons_zero,List.getElem?_toArray,List.getElem?_cons_succ,List.getElem?_cons_zero] at d0 d1 d2 d3
 have hown3:=HH3.out.ochg
 rw[hvc] at hown3
 have hnb:∀ j u,(Chg.cells ⟨A.now+1,nm,od,f⟩)[j]?=some u→(w3.alloc (.cells #[.int .i64 (A.now+1),.string nm,.string od,pv] 126)).cell? ⟨w3.heap.size,j,none⟩=some u:=by
  intro j u hj
  rw[World.cell?_alloc_at _ _ _ _ rfl,←hj,Chg.cells]
  simp[HPV.out]
 have HNB:=Lib.hid hnb
 have hown4:=hown3.alloc (.cells #[.int .i64 (A.now+1),.string nm,.string od,pv] 126)
 have HOW:=Lib.hid hown4
 have hlpb:=HH3.out.lpb
 have hnr:¬ (Value.slice va A.chg.length vcap).ownBlock=some D.pb:=fun e=>ZK (Zj hown3 e) HH3.out.tpb (by decide) rfl
 have hnq:¬ (Value.slice va A.chg.length vcap).ownBlock=some w.heap.size:=fun e=>by
  have:=HH0.out.ochg.blk w.heap.size (by rw[hvc];exact e)
  omega
 have hall:∀ w5 w6:World,w5.heap=(w3.alloc (.cells #[.int .i64 (A.now+1),.string nm,.string od,pv] 126)).heap→Ext (fun b=>(Value.slice va A.chg.length vcap).ownBlock=some b) w5 w6→w6.heap[D.pb]?=some (.cells #[.map (some D.mf),.map (some D.mb),.slice va A.chg.length vcap,D.vs,.int .i64 (A.now+1)] 118 (0,0)):=fun w5 w6 h5 hx6=>by
  rw[hx6.block D.pb (by rw[h5];simp;omega) hnr,h5,Below.heap_alloc _ _ _ hlpb,b3,hvc]
 have HALL:=Lib.hid hall
 have HVC:=Lib.hid hvc
 have HNR:=Lib.hid hnr
 have HNQ:=Lib.hid hnq
 clear hnb hown3 hown4 hnr hall hvc hnq b3
 go_region_law (refine WL (v:=.slice va A.chg.length vcap) (l:=A.chg) rfl (.tmp 20) (.tmp 22) 116 rfl i0 _ 48 Tryz.underlying116 hi hz0 hz1 hz2 rfl (by omega) Chg.len Chg.one rfl HOW.out ⟨A.now+1,nm,od,f⟩ w3.heap.size 1 rfl HNB.out (by unfold maxLen;omega) (by omega) (by simp;omega) ?_;intro v' w6 hown6 hx6 hnw6;obtain ⟨g6,cp6,rfl⟩:∃ g c,v'=.slice (some ⟨g,0,none⟩) (A.chg.length+1) c:=(by rcases hown6.eq_slice with ⟨_,h⟩|⟨g,c,h,_⟩;(simp at h);exact ⟨g,c,by simpa using h⟩);have hb6:=HALL.out _ w6 (by rfl) hx6;have g1:=Joins.unfrozen_of_block hb6 2;have g2:=Joins.cell_of_block hb6 2)
 all_goals
  have hx7:Ext (fun b=>b=D.pb∨D.vc.ownBlock=some b) w3 (w6.setCell ⟨D.pb,2,none⟩ (.slice (some ⟨g6,0,none⟩) (A.chg.length+1) cp6)) :=
   Ext.setCell ((((Ext.refl _ w3).alloc (.cells #[.int .i64 (A.now+1),.string nm,.string od,pv] 126))).andThen (T:=fun b=>(Value.slice va A.chg.length vcap).ownBlock=some b) ⟨hx6.os,hx6.tape,hx6.output,hx6.size,hx6.block⟩ (fun b _ hb=>.inr (by rw[HVC.out];exact hb))) (.inr (.inl rfl)) _
  have hblk:(w6.setCell ⟨D.pb,2,none⟩ (.slice (some ⟨g6,0,none⟩) (A.chg.length+1) cp6)).heap[D.pb]?=some (.cells #[.map (some D.mf),.map (some D.mb),.slice (some ⟨g6,0,none⟩) (A.chg.length+1) cp6,D.vs,.int .i64 (A.now+1)] 118 (0,0)):=by
   rw[Joins.block_setCell hb6];rfl
  have h7:=HH3.out.head hx7 (fun b _ hb=>hb.elim .inl (fun e=>.inr (.inl e))) hblk (hown6.ext (Xd _ _ _ _) (fun b hb e=>ZK (Zj hown6 hb) (YU hb6) (by decide) e))
   (HH3.out.osyn.ext hx7 (fun b hb hs=>by
    rcases hs with rfl|e
    ·exact ZK (Zj HH3.out.osyn hb) HH3.out.tpb (by decide) rfl
    ·exact ZK (Zj HH3.out.osyn hb) (Zj HH3.out.ochg e) (by decide) rfl))
   (fun c hc f' hf'=>by
    rcases List.mem_append.1 hc with hc|hc
    ·exact HH3.out.ok.inc c hc f' hf'
    ·simp at hc;subst hc;exact HC.out f' hf')
  have q7:=(hx7.block w.heap.size hw0 (fun e=>by
   rcases e with e|e
   ·omega
   ·exact HNQ.out (by rw[←HVC.out];exact e))).trans HQ2.out
  have hg6:∀ b,(Value.slice (some ⟨g6,0,none⟩) (A.chg.length+1) cp6).ownBlock=some b→D.vc.ownBlock=some b∨w.heap.size≤b:=fun b hb=>by
   rcases hnw6 b hb with e|e
   ·exact .inl (by rw[HVC.out];exact e)
   ·refine .inr (Nat.le_trans ?_ e)
    simp
    omega
  have hs7:=hx7.size
  obtain ⟨w7,hw7⟩:=Je (w6.setCell ⟨D.pb,2,none⟩ (.slice (some ⟨g6,0,none⟩) (A.chg.length+1) cp6))
  rw[hw7] at h7 hx7 q7 hs7 ⊢
  have HX7:=Lib.hid hx7
  have HG6:=Lib.hid hg6
  have d0:=Joins.cell_of_block q7 0
  have d1:=Joins.cell_of_block q7 1
  have d2:=Joins.cell_of_block q7 2
  have d3:=Joins.cell_of_block q7 3
  have c0:=Joins.cell_of_block h7.blk 0
  simp only[List.getElem?_toArray,Array.getElem?_setIfInBounds,List.size_toArray,List.length_cons,List.length_nil,List.getElem?_cons_succ,List.getElem?_cons_zero,Nat.reduceAdd,Nat.reduceLT,if_true] at d0 d1 d2 d3 c0
  try simp only[List.setIfInBounds_toArray,List.set_cons_zero,List.getElem?_toArray,List.getElem?_cons_succ,List.getElem?_cons_zero] at d0 d1 d2 d3
  have HM7:=Lib.hid h7.mfiles
  have H7:=Lib.hid h7
  have hap:=fun W h=>Z5F ⟨A.now+1,nm,od,f⟩ D.mf A.files W h
  dsimp only at hap
  rw[HPV.out] at hap
  have HAP:=Lib.hid hap
  have n1:=ZK h7.tpb (Wp h7.mfiles) (by decide)
  have n2:=ZK (YU q7) (Wp h7.mfiles) (by decide)
  clear hw7 hx7 hg6 hown6 hx6 hnw6 hb6 g1 g2 q7 h7 hap hblk
  go_upto_region 4 with fail
  go_region_held3 (fun W=>W.cell? ⟨w.heap.size,0,none⟩=some (.int .i64 (A.now+1))∧W.cell? ⟨w.heap.size,1,none⟩=some (.string nm)∧W.cell? ⟨w.heap.size,2,none⟩=some (.string od)∧W.cell? ⟨w.heap.size,3,none⟩=some pv∧W.cell? ⟨D.pb,0,none⟩=some (.map (some D.mf))) (first|exact ⟨d0,d1,d2,d3,c0⟩|exact ⟨Ext.keep hx8 d0 n2,Ext.keep hx8 d1 n2,Ext.keep hx8 d2 n2,Ext.keep hx8 d3 n2,Ext.keep hx8 c0 n1⟩) ((go_at_call 118;((with_reducible refine (HAP.out _ HM7.out.drew).mono ?_);rintro e w8 ⟨rfl,hm8,hx8⟩;rw[Z6I] at hx8)))
  all_goals
   have h8:=H7.out.names hx8 hm8 (fun n g hg=>by
    rcases Z4E hg with e|⟨rfl,e⟩
    ·exact HH0.out.ok.inf n g e
    ·exact HC.out g e)
   have hT:Zl base w D A w8 { D with vc:=.slice (some ⟨g6,0,none⟩) (A.chg.length+1) cp6,vs:=D.vs } (ZH ⟨cat,nm,od,f⟩ A):={
    is_:=h8
    pb:=rfl
    ext:=(HX3.out.andThen HX7.out (fun b _ hb=>hb.elim .inl (fun e=>.inr (.inr (.inr (.inl e)))))).andThen hx8 (fun b _ hb=>.inr (.inl hb))
    foot:=fun b hb=>by
     rcases hb with e|e|e|e|e|⟨g,hg,e⟩
     ·exact .inl (.inl e)
     ·exact .inl (.inr (.inl e))
     ·exact .inl (.inr (.inr (.inl e)))
     ·exact (HG6.out b e).elim (fun e=>.inl (.inr (.inr (.inr (.inl e))))) .inr
     ·exact .inl (.inr (.inr (.inr (.inr (.inl e)))))
     ·exact .inl (.inr (.inr (.inr (.inr (.inr ⟨g,hg,e⟩))))) }
   have HT:=Lib.hid hT
   clear hm8 hx8 h8 hT d0 d1 d2 d3 c0
   first
    | (go_wp2_with fail;go_end0;exact ⟨rfl,_,HT.out⟩)
    | (go_end0;exact ⟨rfl,_,HT.out⟩)
def okB (c:UInt8):Bool:=decide (97≤c.toNat∧c.toNat≤122)
def Yn (s:ByteArray):Bool:=s.data.toList.all okB && decide (1≤s.size∧s.size≤8)
theorem RT {s:ByteArray} (h:Yn s=true):s.size≤8:=by
 simp[Yn] at h
 exact h.2.2
theorem Z0R {s:ByteArray} {i:Nat} (hi:i<s.size) (h:okB (s[i]'hi)=false):Yn s=false:=by
 have:s.data.toList.all okB=false:=by
  rw[List.all_eq_false]
  exact ⟨s[i]'hi,by rw[show s[i]'hi=s.data.toList[i]'(by simpa using hi) from rfl];exact List.getElem_mem _,by simp[h]⟩
 simp[Yn,this]
theorem Z7W {s:ByteArray} (h:∀ i (hi:i<s.size),okB (s[i]'hi)=true):Yn s=decide (1≤s.size∧s.size≤8):=by
 have:s.data.toList.all okB=true:=by
  rw[List.all_eq_true]
  intro x hx
  obtain ⟨i,hi,rfl⟩:=List.mem_iff_getElem.1 hx
  exact h i (by simpa using hi)
 simp[Yn,this]
theorem QU {B:Nat} {w w':World} (h:Below B w w') (hB:B≤w'.heap.size) (s:ByteArray) (p:Nat):Below B w (w'.iter s p):=h.alloc hB _
theorem Z0i (s:ByteArray) (w:World):Calls Tryz.prog 68 #[.string s] w fun e w'=>e=.returned (.bool (Yn s))∧Below w.heap.size w w':=by
 have hrs:=fun w=>run_range_string (P:=Tryz.prog) w 9 s SE
 go_enter Tryz.func68,Tryz.ntmps68
 go_wp2_with fail
 go_loopg [4] s.size (fun g cv wx=>∃ k:Nat,g=s.size - k∧k≤s.size∧wx=w.iter s k∧Hid (∀ i (hi:i<s.size),i<k→okB (s[i]'hi)=true))
 case atStart=>exact ⟨0,by omega,by omega,rfl,Jh (fun i _ h=>absurd h (by omega))⟩
 case round =>
  obtain ⟨k,hg,hk,rfl,hU⟩:=hrel
  by_cases hkl:k<s.size
  ·have hb:Below w.heap.size w (w.iter s (k+(Utf8.decode s k).2)):=QU (Below.refl _ _) (Nat.le_refl _) _ _
   by_cases ha:(s[k]'hkl).toNat<128
   ·have hnx:=fun ty=>run_next_ascii (P:=Tryz.prog) w s k ty hkl ha
    have hdc:=decode_ascii s k hkl ha
    rw[hdc] at hb
    by_cases h1:(s[k]'hkl).toNat<97
    ·have hr:Yn s=false:=Z0R hkl (by simp[okB];omega)
     go_wp2
     go_ret
     exact ⟨by first|rfl|(rw[hr];rfl),hb⟩
    ·by_cases h2:122<(s[k]'hkl).toNat
     ·have hr:Yn s=false:=Z0R hkl (by simp[okB];omega)
      go_wp2
      go_ret
      exact ⟨by first|rfl|(rw[hr];rfl),hb⟩
     ·have ho:okB (s[k]'hkl)=true:=by simp[okB];omega
      go_wp2
      go_roundg (s.size - (k+1))
      case measure=>omega
      case rel=>exact ⟨k+1,rfl,by omega,rfl,Jh (fun i hi hik=>by
       by_cases h3:i<k
       ·exact hU.out i hi h3
       ·obtain rfl:i=k:=by omega
        exact ho)⟩
   ·have hnx:=fun ty=>run_next_any (P:=Tryz.prog) w s k ty hkl
    have hdc:=decode_high s k hkl (by omega)
    have hr:Yn s=false:=Z0R hkl (by simp[okB];omega)
    have h1:¬ ((Utf8.decode s k).1:Int)<97:=by omega
    have h2:(122:Int)<((Utf8.decode s k).1:Int):=by omega
    go_wp2
    go_ret
    exact ⟨by first|rfl|(rw[hr];rfl),hb⟩
  ·obtain rfl:k=s.size:=by omega
   have hnx:=fun ty=>run_next_end (P:=Tryz.prog) w s s.size ty (by omega)
   have hr:=Z7W (fun i hi=>hU.out i hi hi)
   have hb:Below w.heap.size w (w.iter s s.size):=QU (Below.refl _ _) (Nat.le_refl _) _ _
   by_cases h1:1≤s.size
   ·have h3:(1:Int)≤(s.size:Int):=by omega
    by_cases h2:s.size≤8
    ·have h4:(s.size:Int)≤8:=by omega
     have hr2:Yn s=true:=by rw[hr];exact decide_eq_true ⟨h1,h2⟩
     clear hr
     go_wp2
     go_ret
     exact ⟨by first|rfl|simp[hr2,h4],hb⟩
    ·have h4:¬ (s.size:Int)≤8:=by omega
     have hr2:Yn s=false:=by rw[hr];exact decide_eq_false (fun h=>h2 h.2)
     clear hr
     go_wp2
     go_ret
     exact ⟨by first|rfl|simp[hr2,h4],hb⟩
   ·have h3:¬ (1:Int)≤(s.size:Int):=by omega
    have hr2:Yn s=false:=by rw[hr];exact decide_eq_false (fun h=>h1 h.1)
    clear hr
    go_wp2
    go_ret
    exact ⟨by first|rfl|simp[hr2,h3],hb⟩
def Sx (A:Z4) (name:ByteArray):Value:=.tuple #[WC (Zb A.files name),.int .i64 (if (Zb A.files name).isSome then 0 else 61)]
theorem UJ {base:Nat} {w:World} {D:DSh} {A:Z4} (h:Zd base w D A) (name:ByteArray) :
  Calls Tryz.prog 70 #[.pointer (some ⟨D.pb,0,none⟩),.string name] w fun e w'=>e=.returned (Sx A name)∧w'=w:=by
 have c0:=Joins.cell_of_block h.blk 0
 simp only[List.getElem?_toArray,List.getElem?_cons_zero] at c0
 unfold Sx
 cases hg:Zb A.files name with
 | none =>
  have hl:(Instr.lookup 115 (.map (some D.mf)) (.string name) false).run Tryz.prog w=.ok (.pointer none) w:=by
   have:=h.mfiles.lookup VR VH R1 name
   rw[hg] at this
   exact this
  have HH:=Lib.hid h
  clear h
  go_enter Tryz.func70,Tryz.ntmps70
  go_wp2
  refine bodyPost_ret (results_tmp2 rfl _ _ _) rfl ?_
  exact ⟨rfl,rfl⟩
 | some f =>
  have hl:(Instr.lookup 115 (.map (some D.mf)) (.string name) false).run Tryz.prog w=.ok (.pointer (some ⟨f,0,none⟩)) w:=by
   have:=h.mfiles.lookup VR VH R1 name
   rw[hg] at this
   exact this
  have HH:=Lib.hid h
  clear h
  go_enter Tryz.func70,Tryz.ntmps70
  go_wp2
  refine bodyPost_ret (results_tmp2 rfl _ _ _) rfl ?_
  exact ⟨rfl,rfl⟩
theorem ZI.len {K V:Type} [DecidableEq K] {ek:K→Value} {ev:V→Value} {w:World} {b:Nat} {l:List (K × V)} {P:Program} {mt kt et:TypeId} (h:ZI ek ev w b l) (hm:P.underlying mt=some (.map kt et)) (ty:TypeId) :
  (Builtin.len_ #[mt] ty #[.map (some b)]).run P w=.ok (.int .i64 l.length) w:=by
 obtain ⟨hn,es,clock,h1,h2,h3,h4⟩:=h
 have hs:es.size=l.length:=by
  have:=congrArg List.length h2
  simpa using this
 simp[Builtin.len_,run_underlying hm,Xh h1,goInt,Result.andThen,hs]
theorem RY {base:Nat} {w:World} {D:DSh} {A:Z4} (h:Zd base w D A) :
  Calls Tryz.prog 37 #[.pointer (some ⟨D.pb,0,none⟩)] w fun e w'=>e=.returned (.int .i64 A.now)∧w'=w:=by
 have c0:=Joins.cell_of_block h.blk 4
 simp only[List.getElem?_toArray,List.getElem?_cons_zero,List.getElem?_cons_succ] at c0
 have HH:=Lib.hid h
 clear h
 go_enter Tryz.func37,Tryz.ntmps37
 go_wp2
 go_ret
 exact ⟨rfl,rfl⟩
def Yo (A:Z4) (n:ByteArray):Int:=if Yn n=false then 63 else if (Zb A.files n).isSome then 1 else if A.files.length=8 then 62 else 0
def Xa (fb:Nat) (A:Z4):Z4:={ A with ids:=fb :: A.ids,fs:=fun g=>if g=fb then [] else A.fs g }
theorem Zl.born {base:Nat} {w:World} {D:DSh} {A:Z4} (h:Zd base w D A) (hl:base≤w.heap.size) :
  Zl base w D A (w.alloc (.cells #[.slice none 0 0,.int .i64 0] 124)) { D with rv:=fun g=>if g=w.heap.size then .slice none 0 0 else D.rv g } (Xa w.heap.size A) where
 is_:=h.born hl
 pb:=rfl
 ext:=(Ext.refl _ _).alloc _
 foot b hb:=by
  have hn:∀ f∈A.ids,f≠w.heap.size:=fun f hf=>Nat.ne_of_lt (h.file f hf).lt
  rcases hb with e|e|e|e|e|⟨g,hg,e⟩
  ·exact .inl (.inl e)
  ·exact .inl (.inr (.inl e))
  ·exact .inl (.inr (.inr (.inl e)))
  ·exact .inl (.inr (.inr (.inr (.inl e))))
  ·exact .inl (.inr (.inr (.inr (.inr (.inl e)))))
  ·rcases List.mem_cons.1 hg with rfl|hg
   ·dsimp only at e
    rw[if_pos rfl] at e
    rcases e with rfl|e
    ·exact .inr (Nat.le_refl _)
    ·cases e
   ·dsimp only at e
    rw[if_neg (hn g hg)] at e
    exact .inl (.inr (.inr (.inr (.inr (.inr ⟨g,hg,e⟩)))))
theorem Z2S {base:Nat} {w:World} {D:DSh} {A:Z4} (h:Zd base w D A) (hbw:base≤w.heap.size) (name:ByteArray) (hn0:0≤A.now) (hn1:A.now≤1000000000) (hl:A.chg.length≤1000000000) :
  Calls Tryz.prog 29 #[.pointer (some ⟨D.pb,0,none⟩),.string name] w fun e w'=>e=.returned (.int .i64 (Yo A name)) ∧
   ((Yo A name≠0∧Zl base w D A w' D A)∨(Yo A name=0∧∃ fb D',fb∉A.ids∧Zl base w D A w' D' (ZH ⟨0,name,⟨#[]⟩,some fb⟩ (Xa fb A)))):=by
 go_enter Tryz.func29,Tryz.ntmps29
 go_wp2_with fail
 refine (Z0i name _).mono ?_
 rintro e w1 ⟨rfl,b1⟩
 have hT1:=Zl.below h b1
 have h1:=hT1.is_
 have hb1:base≤w1.heap.size:=Nat.le_trans hbw b1.size
 cases hr:Yn name with
 | false =>
  have hc:Yo A name=63:=by simp[Yo,hr]
  have HT:=Lib.hid hT1
  clear h h1 hT1 b1
  go_wp2
  go_ret
  exact ⟨by rw[hc];rfl,.inl ⟨by rw[hc];decide,HT.out⟩⟩
 | true =>
  have c0:=Joins.cell_of_block h1.blk 0
  simp only[List.getElem?_toArray,List.getElem?_cons_zero] at c0
  have hl1:=h1.mfiles.lookup VR VH R1 name
  cases hg:Zb A.files name with
  | some f =>
   have hc:Yo A name=1:=by simp[Yo,hr,hg]
   rw[hg] at hl1
   simp only[Option.map_some,Option.getD_some,VB] at hl1
   have HT:=Lib.hid hT1
   clear h h1 hT1 b1
   go_wp2
   go_ret
   exact ⟨by rw[hc];rfl,.inl ⟨by rw[hc];decide,HT.out⟩⟩
  | none =>
   rw[hg] at hl1
   simp only[Option.map_none,Option.getD_none] at hl1
   have hln:=h1.mfiles.len VH 3
   by_cases h8:A.files.length=8
   ·have hc:Yo A name=62:=by simp[Yo,hr,hg,h8]
    rw[h8] at hln
    have HT:=Lib.hid hT1
    clear h h1 hT1 b1
    go_wp2
    go_ret
    exact ⟨by rw[hc];rfl,.inl ⟨by rw[hc];decide,HT.out⟩⟩
   ·have hc:Yo A name=0:=by simp[Yo,hr,hg,h8]
    have h9:¬ (A.files.length:Int)=8:=by omega
    have hT2:=hT1.trans (Zl.born h1 hb1)
    have hs:=Qw (Zl.born h1 hb1).is_ (by simp;omega) ⟨0,name,⟨#[]⟩,some w1.heap.size⟩ (fun f hf=>by cases hf;exact ⟨List.mem_cons_self,RT hr⟩) hn0 hn1 hl
    have hni:w1.heap.size∉A.ids:=fun hm=>by have:=(h1.file _ hm).lt;omega
    have HT2:=Lib.hid hT2
    have HS:=Lib.hid hs
    clear h h1 hT1 b1 hT2 hs
    go_wp2_with fail
    refine HS.out.mono ?_
    rintro e w3 ⟨rfl,D',hT3⟩
    have HT3:=Jh (HT2.out.trans hT3)
    clear hT3
    go_wp2
    go_ret
    exact ⟨by rw[hc];rfl,.inr ⟨hc,_,D',hni,HT3.out⟩⟩
theorem QT {base:Nat} {w:World} {D:DSh} {A:Z4} (h:Zd base w D A) (hbw:base≤w.heap.size) (name:ByteArray) (hn0:0≤A.now) (hn1:A.now≤1000000000) (hl:A.chg.length≤1000000000) :
  Calls Tryz.prog 43 #[.pointer (some ⟨D.pb,0,none⟩),.string name] w fun e w' =>
   (Zb A.files name=none∧e=.returned (.int .i64 61)∧Zl base w D A w' D A)∨(∃ f D',Zb A.files name=some f∧e=.returned (.int .i64 0)∧Zl base w D A w' D' (ZH ⟨0,⟨#[]⟩,name,none⟩ A)):=by
 go_enter Tryz.func43,Tryz.ntmps43
 go_wp2_with fail
 refine (UJ h name).mono ?_
 rintro e w1 ⟨rfl,rfl⟩
 have hs:=Qw h hbw ⟨0,⟨#[]⟩,name,none⟩ (fun f hf=>by cases hf) hn0 hn1 hl
 have HS:=Lib.hid hs
 have HH:=Lib.hid h
 clear h hs
 unfold Sx
 cases hg:Zb A.files name with
 | none =>
  simp only[Option.isSome_none,WC,Option.map_none]
  go_wp2
  go_ret
  first|exact .inl ⟨hg,rfl,Zl.refl HH.out⟩|exact ⟨rfl,Zl.refl HH.out⟩
 | some f =>
  simp only[Option.isSome_some,WC,Option.map_some,if_true]
  go_wp2_with fail
  refine HS.out.mono ?_
  rintro e w3 ⟨rfl,D',hT3⟩
  have HT3:=Lib.hid hT3
  clear hT3
  go_wp2
  go_ret
  exact .inr ⟨f,D',hg,rfl,HT3.out⟩
theorem Z4O {base:Nat} {w:World} {D:DSh} {A:Z4} (h:Zd base w D A) (hbw:base≤w.heap.size) (old name:ByteArray) (hn0:0≤A.now) (hn1:A.now≤1000000000) (hl:A.chg.length≤1000000000) :
  Calls Tryz.prog 131 #[.pointer (some ⟨D.pb,0,none⟩),.string old,.string name] w fun e w' =>
   (Yn name=false∧e=.returned (.int .i64 63)∧Zl base w D A w' D A)∨(Yn name=true∧Zb A.files old=none∧e=.returned (.int .i64 61)∧Zl base w D A w' D A) ∨
   (∃ f D',Yn name=true∧Zb A.files old=some f∧e=.returned (.int .i64 0)∧Zl base w D A w' D' (ZH ⟨0,name,old,some f⟩ A)):=by
 go_enter Tryz.func131,Tryz.ntmps131
 go_wp2_with fail
 refine (Z0i name _).mono ?_
 rintro e w1 ⟨rfl,b1⟩
 have hT1:=Zl.below h b1
 have h1:=hT1.is_
 have hb1:base≤w1.heap.size:=Nat.le_trans hbw b1.size
 cases hr:Yn name with
 | false =>
  have HT:=Lib.hid hT1
  clear h h1 hT1 b1
  go_wp2
  go_ret
  exact .inl ⟨hr,rfl,HT.out⟩
 | true =>
  go_wp2_with fail
  refine (UJ h1 old).mono ?_
  rintro e w2 ⟨rfl,rfl⟩
  unfold Sx
  cases hg:Zb A.files old with
  | none =>
   simp only[Option.isSome_none,WC,Option.map_none]
   have HT:=Lib.hid hT1
   clear h h1 hT1 b1
   go_wp2
   go_ret
   first|exact .inr (.inl ⟨hr,hg,rfl,HT.out⟩)|exact .inr ⟨hr,rfl,HT.out⟩|exact ⟨rfl,HT.out⟩
  | some f =>
   simp only[Option.isSome_some,WC,Option.map_some,if_true]
   have hs:=Qw h1 hb1 ⟨0,name,old,some f⟩ (fun g hf=>by cases hf;exact ⟨(h1.ok.inf _ _ (UT hg)).1,RT hr⟩) hn0 hn1 hl
   have HS:=Lib.hid hs
   have HT:=Lib.hid hT1
   clear h h1 hT1 b1 hs
   go_wp2_with fail
   refine HS.out.mono ?_
   rintro e w3 ⟨rfl,D',hT3⟩
   have HT3:=Jh (HT.out.trans hT3)
   clear hT3
   go_wp2
   go_ret
   first|exact .inr (.inr ⟨f,D',hr,hg,rfl,HT3.out⟩)|exact ⟨f,D',hr,hg,rfl,HT3.out⟩
theorem Zd.tick {base:Nat} {w:World} {D:DSh} {A:Z4} (h:Zd base w D A):Zd base (w.setCell ⟨D.pb,4,none⟩ (.int .i64 (A.now+1))) D { A with now:=A.now+1 } :=
 h.head (S:=(·=D.pb)) (Xd _ _ _ _) (fun b _ hb=>.inl hb) (Joins.block_setCell (i:=4) h.blk (.int .i64 (A.now+1))) (h.ochg.ext (Xd _ _ _ _) (fun b hb e=>ZK (Zj h.ochg hb) h.tpb (by decide) e))
  (h.osyn.ext (Xd _ _ _ _) (fun b hb e=>ZK (Zj h.osyn hb) h.tpb (by decide) e)) h.ok.inc
def Xg (A:Z4):Z4:={ A with now:=A.now+1,syn:=A.syn++[A.now+1] }
theorem VQ {base:Nat} {w:World} {D:DSh} {A:Z4} (h:Zd base w D A) (hbw:base≤w.heap.size) (hn0:0≤A.now) (hn1:A.now≤1000000000) (hl:A.syn.length≤1000000000) :
  Calls Tryz.prog 121 #[.pointer (some ⟨D.pb,0,none⟩)] w fun e w' =>
   e=.returned (.int .i64 0)∧∃ D',Zl base w D A w' D' (Xg A):=by
 obtain ⟨i0,hi,hz0,hz1,hz2⟩:=info_parts Wa
 have HH0:=Lib.hid h
 have p0:=h.blk
 have h3:=h.tick
 obtain ⟨w3,hw3⟩:=Je (w.setCell ⟨D.pb,4,none⟩ (.int .i64 (A.now+1)))
 have hs3:w3.heap.size=w.heap.size:=by rw[←hw3,World.size_setCell]
 have HX3:Hid (Ext (Wo D A) w w3):=Jh (by rw[←hw3];exact (Ext.refl _ w).setCell (p:=⟨D.pb,4,none⟩) (.inr (.inl rfl)) _)
 rw[hw3] at h3
 have b3:=h3.blk
 have k0:=Joins.cell_of_block p0 4
 have k1:=Joins.unfrozen_of_block p0 4
 have k2:=Joins.cell_of_block b3 4
 simp only[List.getElem?_toArray,List.getElem?_cons_succ,List.getElem?_cons_zero] at k0 k2
 have hbw3:base≤w3.heap.size:=by omega
 have HS3:=Lib.hid hs3
 have HH3:=Lib.hid h3
 clear h h3 p0 b3 hs3
 go_enter Tryz.func121,Tryz.ntmps121
 go_upto_region 4 with fail
 clear k0 k1 hw3
 obtain ⟨va,vcap,hvc⟩:∃ va vcap,D.vs=.slice va A.syn.length vcap:=by
  rcases HH0.out.osyn.eq_slice with ⟨e,e2⟩|⟨g,c,e,_⟩
  ·exact ⟨none,0,by rw[e,e2];rfl⟩
  ·exact ⟨_,_,e⟩
 have b3:=HH3.out.blk
 have c2:=Joins.cell_of_block b3 3
 have f2:=Joins.unfrozen_of_block b3 3
 simp only[List.getElem?_toArray,List.getElem?_cons_succ,List.getElem?_cons_zero,hvc] at c2
 have hown3:=HH3.out.osyn
 rw[hvc] at hown3
 have hnb:∀ j u,(Zh (A.now+1))[j]?=some u→(w3.alloc (.cells #[.int .i64 (A.now+1)] 3)).cell? ⟨w3.heap.size,j,none⟩=some u:=by
  intro j u hj
  rw[World.cell?_alloc_at _ _ _ _ rfl,←hj,Zh]
  simp
 have HNB:=Lib.hid hnb
 have hown4:=hown3.alloc (.cells #[.int .i64 (A.now+1)] 3)
 have HOW:=Lib.hid hown4
 have hlpb:=HH3.out.lpb
 have hnr:¬ (Value.slice va A.syn.length vcap).ownBlock=some D.pb:=fun e=>ZK (Zj hown3 e) HH3.out.tpb (by decide) rfl
 have hall:∀ w5 w6:World,w5.heap=(w3.alloc (.cells #[.int .i64 (A.now+1)] 3)).heap→Ext (fun b=>(Value.slice va A.syn.length vcap).ownBlock=some b) w5 w6→w6.heap[D.pb]?=some (.cells #[.map (some D.mf),.map (some D.mb),D.vc,.slice va A.syn.length vcap,.int .i64 (A.now+1)] 118 (0,0)):=fun w5 w6 h5 hx6=>by
  rw[hx6.block D.pb (by rw[h5];simp;omega) hnr,h5,Below.heap_alloc _ _ _ hlpb,b3,hvc]
 have HALL:=Lib.hid hall
 have HVC:=Lib.hid hvc
 clear hnb hown3 hown4 hnr hall hvc b3
 go_region_law (refine WL (v:=.slice va A.syn.length vcap) (l:=A.syn) rfl (.tmp 16) (.tmp 21) 100 rfl i0 _ 8 Tryz.underlying100 hi hz0 hz1 hz2 rfl (by omega) Zg XF rfl HOW.out (A.now+1) w3.heap.size 1 rfl HNB.out (by unfold maxLen;omega) (by omega) (by simp;omega) ?_;intro v' w6 hown6 hx6 hnw6;obtain ⟨g6,cp6,rfl⟩:∃ g c,v'=.slice (some ⟨g,0,none⟩) (A.syn.length+1) c:=(by rcases hown6.eq_slice with ⟨_,h⟩|⟨g,c,h,_⟩;(simp at h);exact ⟨g,c,by simpa using h⟩);have hb6:=HALL.out _ w6 (by rfl) hx6;have g1:=Joins.unfrozen_of_block hb6 3;have g2:=Joins.cell_of_block hb6 3)
 all_goals
  have hx7:Ext (fun b=>b=D.pb∨D.vs.ownBlock=some b) w3 (w6.setCell ⟨D.pb,3,none⟩ (.slice (some ⟨g6,0,none⟩) (A.syn.length+1) cp6)) :=
   Ext.setCell ((((Ext.refl _ w3).alloc (.cells #[.int .i64 (A.now+1)] 3))).andThen (T:=fun b=>(Value.slice va A.syn.length vcap).ownBlock=some b) ⟨hx6.os,hx6.tape,hx6.output,hx6.size,hx6.block⟩ (fun b _ hb=>.inr (by rw[HVC.out];exact hb))) (.inr (.inl rfl)) _
  have hblk:(w6.setCell ⟨D.pb,3,none⟩ (.slice (some ⟨g6,0,none⟩) (A.syn.length+1) cp6)).heap[D.pb]?=some (.cells #[.map (some D.mf),.map (some D.mb),D.vc,.slice (some ⟨g6,0,none⟩) (A.syn.length+1) cp6,.int .i64 (A.now+1)] 118 (0,0)):=by
   rw[Joins.block_setCell hb6];rfl
  have h7:=HH3.out.head hx7 (fun b _ hb=>hb.elim .inl (fun e=>.inr (.inr e))) hblk
   (HH3.out.ochg.ext hx7 (fun b hb hs=>by
    rcases hs with rfl|e
    ·exact ZK (Zj HH3.out.ochg hb) HH3.out.tpb (by decide) rfl
    ·exact ZK (Zj HH3.out.ochg hb) (Zj HH3.out.osyn e) (by decide) rfl))
   (hown6.ext (Xd _ _ _ _) (fun b hb e=>ZK (Zj hown6 hb) (YU hb6) (by decide) e))
   HH3.out.ok.inc
  have hg6:∀ b,(Value.slice (some ⟨g6,0,none⟩) (A.syn.length+1) cp6).ownBlock=some b→D.vs.ownBlock=some b∨w.heap.size≤b:=fun b hb=>by
   rcases hnw6 b hb with e|e
   ·exact .inl (by rw[HVC.out];exact e)
   ·refine .inr (Nat.le_trans ?_ e)
    have:=HS3.out
    simp
    omega
  have hT:Zl base w D A (w6.setCell ⟨D.pb,3,none⟩ (.slice (some ⟨g6,0,none⟩) (A.syn.length+1) cp6)) { D with vc:=D.vc,vs:=.slice (some ⟨g6,0,none⟩) (A.syn.length+1) cp6 } (Xg A):={
   is_:=h7
   pb:=rfl
   ext:=HX3.out.andThen hx7 (fun b _ hb=>hb.elim .inl (fun e=>.inr (.inr (.inr (.inr (.inl e))))))
   foot:=fun b hb=>by
    rcases hb with e|e|e|e|e|⟨g,hg,e⟩
    ·exact .inl (.inl e)
    ·exact .inl (.inr (.inl e))
    ·exact .inl (.inr (.inr (.inl e)))
    ·exact .inl (.inr (.inr (.inr (.inl e))))
    ·exact (hg6 b e).elim (fun e=>.inl (.inr (.inr (.inr (.inr (.inl e)))))) .inr
    ·exact .inl (.inr (.inr (.inr (.inr (.inr ⟨g,hg,e⟩))))) }
  have HT:=Lib.hid hT
  clear hx7 hblk h7 hg6 hT hown6 hx6 hnw6 hb6 g1 g2
  go_wp2
  go_ret
  exact ⟨rfl,_,HT.out⟩
end Go.Proofs.YtgmdimbiipemhaaGreatDoor
namespace Go.Proofs.YtgmdimbiipemhaaGreatDoor
section
variable {α:Type} [DecidableEq α]
def Za (x:α):List α→Nat
 | []=>0
 | y :: l=>if y=x then Za x l+1 else 0
theorem XC (x:α):∀ l:List α,Za x l≤l.length
 | []=>Nat.le_refl _
 | y :: l=>by
  unfold Za
  split
  ·simp;exact XC x l
  ·omega
theorem Z0l (x:α):∀ l:List α,l.take (Za x l)=List.replicate (Za x l) x
 | []=>rfl
 | y :: l=>by
  unfold Za
  split
  ·rename_i h
   rw[List.take_succ_cons,Z0l x l,List.replicate_succ,h]
  ·simp
theorem XU (x:α):∀ l:List α,(l.drop (Za x l)).head?≠some x
 | []=>by simp[Za]
 | y :: l=>by
  unfold Za
  split
  ·rw[List.drop_succ_cons];exact XU x l
  ·rename_i h;simp[h]
theorem Z0e (x:α) (k:Nat) {l:List α} (h:l.head?≠some x):Za x (List.replicate k x++l)=k:=by
 induction k with
 | zero =>
  cases l with
  | nil=>rfl
  | cons y l=>simp only[List.replicate_zero,List.nil_append,Za];rw[if_neg (fun e=>h (by simp[e]))]
 | succ k ih=>rw[List.replicate_succ,List.cons_append,Za,if_pos rfl,ih]
theorem QN (x:α) (l:List α):l=List.replicate (Za x l) x++l.drop (Za x l):=by
 rw[←Z0l,List.take_append_drop]
end
theorem XY {a b c:List UInt8}:a++b <+: c↔a <+: c∧b <+: c.drop a.length:=by
 constructor
 ·rintro ⟨t,rfl⟩
  refine ⟨⟨b++t,by simp⟩,⟨t,?_⟩⟩
  rw[List.append_assoc,List.drop_left]
 ·rintro ⟨⟨t,rfl⟩,h⟩
  rw[List.drop_left] at h
  obtain ⟨s,rfl⟩:=h
  exact ⟨s,by simp⟩
def Zc:List Int→List UInt8
 | []=>[]
 | x :: l=>Z5 (Za x l+1)++Z5 (Yf x)++Zc (l.drop (Za x l))
termination_by l=>l.length
decreasing_by simp;omega
theorem Z5h (x:Int) (k:Nat) {l:List Int} (h:l.head?≠some x):Zc (List.replicate (k+1) x++l)=Z5 (k+1)++Z5 (Yf x)++Zc l:=by
 rw[List.replicate_succ,List.cons_append,Zc,Z0e x k h]
 congr 2
 rw[List.drop_append_of_le_length (by simp),List.drop_eq_nil_of_le (by simp),List.nil_append]
noncomputable def YT (n:Nat) (prev:Option Int) (b:List UInt8):Option (List Int × Nat) :=
 if hn:n=0 then some ([],0) else
  match ZA b with
  | none=>none
  | some k=>match ZA (b.drop (Z5 k).length) with
   | none=>none
   | some v=>if hk:k=0∨n<k∨prev=some (YL v) then none else
    (YT (n - k) (some (YL v)) (b.drop ((Z5 k).length+(Z5 v).length))).map fun p=>(List.replicate k (YL v)++p.1,(Z5 k).length+(Z5 v).length+p.2)
termination_by n
decreasing_by omega
theorem Z26 (prev:Option Int) (b:List UInt8):YT 0 prev b=some ([],0):=by rw[YT,dif_pos rfl]
theorem Z1i {n:Nat} {prev:Option Int} {b:List UInt8} (hn:n≠0) (h:ZA b=none):YT n prev b=none:=by rw[YT,dif_neg hn,h]
theorem Z1K {n:Nat} {prev:Option Int} {b:List UInt8} {k:Nat} (hn:n≠0) (h:ZA b=some k) (h2:ZA (b.drop (Z5 k).length)=none):YT n prev b=none:=by rw[YT,dif_neg hn,h];simp only[h2]
theorem Z1B {n:Nat} {prev:Option Int} {b:List UInt8} {k v:Nat} (hn:n≠0) (h:ZA b=some k) (h2:ZA (b.drop (Z5 k).length)=some v) (h3:k=0∨n<k∨prev=some (YL v)):YT n prev b=none:=by
 rw[YT,dif_neg hn,h];simp only[h2];rw[dif_pos h3]
theorem SY {n:Nat} {prev:Option Int} {b:List UInt8} {k v:Nat} (h:ZA b=some k) (h2:ZA (b.drop (Z5 k).length)=some v) (hk0:k≠0) (hkn:k≤n) (hp:prev≠some (YL v)) :
  YT n prev b=(YT (n - k) (some (YL v)) (b.drop ((Z5 k).length+(Z5 v).length))).map fun p=>(List.replicate k (YL v)++p.1,(Z5 k).length+(Z5 v).length+p.2):=by
 rw[YT,dif_neg (by omega),h];simp only[h2];rw[dif_neg (by rintro (h|h|h);exact hk0 h;omega;exact hp h)]
theorem Ua:∀ (n:Nat),n<18446744073709551616→∀ (prev:Option Int) (b:List UInt8) (l:List Int) (u:Nat),YT n prev b=some (l,u)↔l.length=n∧(prev≠none→l.head?≠prev)∧(∀ x∈l,Yf x<18446744073709551616)∧Zc l <+: b∧u=(Zc l).length∨(n=0∧l=[]∧u=0):=by
 intro n
 induction n using Nat.strongRecOn with
 | ind n ih =>
  intro hnn prev b l u
  by_cases hn:n=0
  ·subst hn
   rw[Z26]
   constructor
   ·intro h;cases h;exact .inr ⟨rfl,rfl,rfl⟩
   ·rintro (⟨h,_,_,_,rfl⟩|⟨_,rfl,rfl⟩)
    ·rw[List.length_eq_zero_iff.1 h];simp[Zc]
    ·rfl
  ·constructor
   ·intro h
    left
    cases hk:ZA b with
    | none=>rw[Z1i hn hk] at h;cases h
    | some k =>
     cases hv:ZA (b.drop (Z5 k).length) with
     | none=>rw[Z1K hn hk hv] at h;cases h
     | some v =>
      by_cases h3:k=0∨n<k∨prev=some (YL v)
      ·rw[Z1B hn hk hv h3] at h;cases h
      ·have h4:k≠0∧k≤n∧prev≠some (YL v):=⟨fun e=>h3 (.inl e),by have:¬ n<k:=fun e=>h3 (.inr (.inl e));omega,fun e=>h3 (.inr (.inr e))⟩
       rw[SY hk hv h4.1 h4.2.1 h4.2.2] at h
       obtain ⟨⟨r,s⟩,hr,he⟩:=Option.map_eq_some_iff.1 h
       cases he
       have tk:=Zz.1 hk
       have tv:=Zz.1 hv
       obtain ⟨j,rfl⟩:∃ j,k=j+1:=⟨k - 1,by omega⟩
       have key:r.length=n - (j+1)∧r.head?≠some (YL v)∧(∀ x∈r,Yf x<18446744073709551616)∧Zc r <+: b.drop ((Z5 (j+1)).length+(Z5 v).length)∧s=(Zc r).length:=by
        rcases (ih (n - (j+1)) (by omega) (by omega) _ _ _ _).1 hr with ⟨a1,a2,a3,a4,a5⟩|⟨a1,rfl,rfl⟩
        ·exact ⟨a1,a2 (by simp),a3,a4,a5⟩
        ·exact ⟨by simp[a1],by simp,by simp,by simp[Zc],by simp[Zc]⟩
       obtain ⟨a1,a2,a3,a4,a5⟩:=key
       have e:=Z5h (YL v) j a2
       rw[Z19] at e
       refine ⟨by simp;omega,fun _=>?_,fun x hx=>?_,?_,?_⟩
       ·rw[List.replicate_succ];simpa using fun e=>h4.2.2 e.symm
       ·rcases List.mem_append.1 hx with hx|hx
        ·rw[(List.mem_replicate.1 hx).2,Z19];exact tv.1
        ·exact a3 x hx
       ·rw[e,XY,XY,List.length_append]
        exact ⟨⟨tk.2,tv.2⟩,a4⟩
       ·rw[e,List.length_append,List.length_append,a5]
   ·rintro (⟨h1,h2,h3,h4,h5⟩|⟨h,_⟩)
    ·cases l with
     | nil=>simp at h1;omega
     | cons x l =>
      have hl:=XC x l
      rw[Zc,XY,XY] at h4
      rw[List.length_cons] at h1
      have tk:ZA b=some (Za x l+1):=Zz.2 ⟨by omega,h4.1.1⟩
      have tv:ZA (b.drop (Z5 (Za x l+1)).length)=some (Yf x):=Zz.2 ⟨h3 x (by simp),h4.1.2⟩
      rw[SY tk tv (by omega) (by omega) (by
       rw[Z13]
       intro e
       exact h2 (by rw[e];simp) (by rw[e];rfl)),Z13]
      have hr:YT (n - (Za x l+1)) (some x) (b.drop ((Z5 (Za x l+1)).length+(Z5 (Yf x)).length))=some (l.drop (Za x l),(Zc (l.drop (Za x l))).length):=by
       refine (ih (n - (Za x l+1)) (by omega) (by omega) _ _ _ _).2 (.inl ⟨by simp;omega,fun _=>XU x l,fun y hy=>h3 y (List.mem_cons_of_mem _ (List.mem_of_mem_drop hy)),?_,rfl⟩)
       rw[←List.length_append];exact h4.2
      rw[hr,Option.map_some,h5]
      congr 2
      ·rw[List.replicate_succ,List.cons_append]
       congr 1
       exact (QN x l).symm
      ·rw[Zc,List.length_append,List.length_append]
    ·exact absurd h hn
def Yb (n:Int):Int:=(n+9223372036854775808) % 18446744073709551616 - 9223372036854775808
theorem Z2D (n:Int):-9223372036854775808≤Yb n∧Yb n≤9223372036854775807:=by unfold Yb;omega
theorem Z70 {n:Int} (h1:-9223372036854775808≤n) (h2:n≤9223372036854775807):Yb n=n:=by unfold Yb;omega
def YP (p:Int):List Int→List Int
 | []=>[]
 | x :: l=>Yb (x - p) :: YP x l
def ZG:List Int→List Int
 | []=>[]
 | x :: l=>x :: YP x l
def WD (p:Int):List Int→List Int
 | []=>[]
 | x :: l=>Yb (x+p) :: WD (Yb (x+p)) l
def Ye:List Int→List Int
 | []=>[]
 | x :: l=>x :: WD x l
theorem Q5:∀ (l:List Int) (p:Int),(∀ x∈l,-9223372036854775808≤x∧x≤9223372036854775807)→WD p (YP p l)=l
 | [],_,_=>rfl
 | x :: l,p,h=>by
  have hx:=h x (by simp)
  have e:Yb (Yb (x - p)+p)=x:=by unfold Yb;omega
  rw[YP,WD,e,Q5 l x (fun y hy=>h y (by simp[hy]))]
theorem Z4W {l:List Int} (h:∀ x∈l,-9223372036854775808≤x∧x≤9223372036854775807):Ye (ZG l)=l:=by
 cases l with
 | nil=>rfl
 | cons x l=>rw[ZG,Ye,Q5 l x (fun y hy=>h y (by simp[hy]))]
theorem Qe:∀ (l:List Int) (p:Int),(∀ x∈l,-9223372036854775808≤x∧x≤9223372036854775807)→YP p (WD p l)=l
 | [],_,_=>rfl
 | x :: l,p,h=>by
  have hx:=h x (by simp)
  have e:Yb (Yb (x+p) - p)=x:=by unfold Yb;omega
  rw[WD,YP,e,Qe l _ (fun y hy=>h y (by simp[hy]))]
theorem Z50 {l:List Int} (h:∀ x∈l,-9223372036854775808≤x∧x≤9223372036854775807):ZG (Ye l)=l:=by
 cases l with
 | nil=>rfl
 | cons x l=>rw[Ye,ZG,Qe l x (fun y hy=>h y (by simp[hy]))]
theorem VX (v:Bool) {l:List Bool} (h:l≠[]):2*(l.drop (Za v l)).length+(if (l.drop (Za v l)).head?=some (!v) then 0 else 1)<2*l.length+(if l.head?=some v then 0 else 1):=by
 cases l with
 | nil=>exact absurd rfl h
 | cons x l =>
  by_cases hx:x=v
  ·have e:Za v (x :: l)=Za v l+1:=by rw[Za,if_pos hx]
   have:=XC v l
   rw[e,List.drop_succ_cons,List.length_drop,List.length_cons]
   split <;> omega
  ·have e:Za v (x :: l)=0:=by rw[Za,if_neg hx]
   have hx2:x=!v:=by cases x <;> cases v <;> simp_all
   rw[e,List.drop_zero,List.head?_cons,if_pos (by rw[hx2]),if_neg (by simpa using hx)]
   omega
def ZO (v:Bool) (l:List Bool):List UInt8:=if h:l=[] then [] else Z5 (Za v l)++ZO (!v) (l.drop (Za v l))
termination_by 2*l.length+(if l.head?=some v then 0 else 1)
decreasing_by exact VX v h
def Yu (l:List Bool):List UInt8:=ZO false l
theorem Xt (v:Bool):ZO v []=[]:=by rw[ZO,dif_pos rfl]
theorem YY {v:Bool} {l:List Bool} (h:l≠[]):ZO v l=Z5 (Za v l)++ZO (!v) (l.drop (Za v l)):=by rw[ZO,dif_neg h]
noncomputable def Xl (n:Nat) (v first:Bool) (b:List UInt8):Option (List Bool × Nat) :=
 if hn:n=0 then some ([],0) else
  match ZA b with
  | none=>none
  | some k=>if hk:(k=0∧first=false)∨n<k then none else
   (Xl (n - k) (!v) false (b.drop (Z5 k).length)).map fun p=>(List.replicate k v++p.1,(Z5 k).length+p.2)
termination_by 2*n+(if first then 1 else 0)
decreasing_by
 have h1:¬ n<k:=fun e=>hk (.inr e)
 have h2:¬ (k=0∧first=false):=fun e=>hk (.inl e)
 cases first
 ·have:k≠0:=fun e=>h2 ⟨e,rfl⟩
  simp only[Bool.false_eq_true,if_false]
  omega
 ·simp only[Bool.false_eq_true,if_false,if_true]
  omega
theorem Z1E (v first:Bool) (b:List UInt8):Xl 0 v first b=some ([],0):=by rw[Xl,dif_pos rfl]
theorem Z24 {n:Nat} {v first:Bool} {b:List UInt8} (hn:n≠0) (h:ZA b=none):Xl n v first b=none:=by rw[Xl,dif_neg hn,h]
theorem Z1r {n:Nat} {v first:Bool} {b:List UInt8} {k:Nat} (hn:n≠0) (h:ZA b=some k) (h3:(k=0∧first=false)∨n<k):Xl n v first b=none:=by
 rw[Xl,dif_neg hn,h];simp only[];rw[dif_pos h3]
theorem Z1k {n:Nat} {v first:Bool} {b:List UInt8} {k:Nat} (hn:n≠0) (h:ZA b=some k) (h3:¬ ((k=0∧first=false)∨n<k)) :
  Xl n v first b=(Xl (n - k) (!v) false (b.drop (Z5 k).length)).map fun p=>(List.replicate k v++p.1,(Z5 k).length+p.2):=by
 rw[Xl,dif_neg hn,h];simp only[];rw[dif_neg h3]
theorem Z3F (v:Bool) (k:Nat) {l:List Bool} (h:l.head?≠some v) (hl:0<k+l.length):ZO v (List.replicate k v++l)=Z5 k++ZO (!v) l:=by
 have hne:List.replicate k v++l≠[]:=by
  intro e
  have:=congrArg List.length e
  rw[List.length_append,List.length_replicate,List.length_nil] at this
  omega
 rw[YY hne,Z0e v k h]
 congr 2
 rw[List.drop_append_of_le_length (by simp),List.drop_eq_nil_of_le (by simp),List.nil_append]
theorem UI {v:Bool} {l:List Bool} (h:l.head?≠some v):l=[]∨l.head?=some (!v):=by
 cases l with
 | nil=>exact .inl rfl
 | cons x l=>right;cases x <;> cases v <;> simp_all
theorem QM:∀ (n:Nat),n<18446744073709551616→∀ (v first:Bool) (b:List UInt8) (l:List Bool) (u:Nat),Xl n v first b=some (l,u)↔l.length=n∧(first=false→l=[]∨l.head?=some v)∧ZO v l <+: b∧u=(ZO v l).length:=by
 have main:∀ (m n:Nat) (v first:Bool),2*n+(if first=true then 1 else 0)=m→n<18446744073709551616→∀ (b:List UInt8) (l:List Bool) (u:Nat),Xl n v first b=some (l,u)↔l.length=n∧(first=false→l=[]∨l.head?=some v)∧ZO v l <+: b∧u=(ZO v l).length:=by
  intro m
  induction m using Nat.strongRecOn with
  | ind m ih =>
   intro n v first hm hnn b l u
   by_cases hn:n=0
   ·subst hn
    rw[Z1E]
    constructor
    ·intro h;cases h;exact ⟨rfl,fun _=>.inl rfl,by rw[Xt];exact List.nil_prefix,by rw[Xt];rfl⟩
    ·rintro ⟨h,_,_,rfl⟩
     rw[List.length_eq_zero_iff.1 h,Xt];rfl
   ·cases hk:ZA b with
    | none =>
     rw[Z24 hn hk]
     constructor
     ·intro h;cases h
     ·rintro ⟨h1,_,h3,_⟩
      have hl:l≠[]:=by intro e;rw[e] at h1;exact hn h1.symm
      rw[YY hl,XY] at h3
      have hle:=XC v l
      exact absurd ⟨by omega,h3.1⟩ (VO.1 hk (Za v l))
    | some k =>
     have tk:=Zz.1 hk
     by_cases h3:(k=0∧first=false)∨n<k
     ·rw[Z1r hn hk h3]
      constructor
      ·intro h;cases h
      ·rintro ⟨h1,h2,h4,_⟩
       have hl:l≠[]:=by intro e;rw[e] at h1;exact hn h1.symm
       rw[YY hl,XY] at h4
       have hle:=XC v l
       have e:=tk.uniq ⟨by omega,h4.1⟩
       rcases h3 with ⟨e0,ef⟩|h3
       ·have:=(h2 ef).resolve_left hl
        cases l with
        | nil=>exact absurd rfl hl
        | cons x l =>
         simp only[List.head?_cons,Option.some.injEq] at this
         rw[Za,if_pos this] at e
         omega
       ·omega
     ·rw[Z1k hn hk h3]
      have hlt:2*(n - k)+(if (false=true) then 1 else 0)<m:=by
       have h1:¬ n<k:=fun e=>h3 (.inr e)
       have h2:¬ (k=0∧first=false):=fun e=>h3 (.inl e)
       rw[←hm]
       cases first
       ·have:k≠0:=fun e=>h2 ⟨e,rfl⟩
        simp
        omega
       ·simp
        omega
      have ih2:=ih _ hlt (n - k) (!v) false rfl (by omega) (b.drop (Z5 k).length)
      constructor
      ·intro h
       obtain ⟨⟨r,s⟩,hr,he⟩:=Option.map_eq_some_iff.1 h
       cases he
       obtain ⟨a1,a2,a3,a4⟩:=(ih2 r s).1 hr
       have hh:r.head?≠some v:=by
        rcases a2 rfl with rfl|a2
        ·simp
        ·rw[a2];cases v <;> simp
       have hkn:k≤n:=by have:¬ n<k:=fun e=>h3 (.inr e);omega
       have e:=Z3F v k hh (by omega)
       refine ⟨by simp;omega,fun hf=>?_,?_,?_⟩
       ·right
        have hk0:k≠0:=fun e=>h3 (.inl ⟨e,hf⟩)
        obtain ⟨j,rfl⟩:∃ j,k=j+1:=⟨k - 1,by omega⟩
        rw[List.replicate_succ];rfl
       ·rw[e,XY];exact ⟨tk.2,a3⟩
       ·rw[e,List.length_append,a4]
      ·rintro ⟨h1,h2,h4,h5⟩
       have hl:l≠[]:=by intro e;rw[e] at h1;exact hn h1.symm
       rw[YY hl,XY] at h4
       have hle:=XC v l
       have e:=tk.uniq ⟨by omega,h4.1⟩
       subst e
       have hr:Xl (n - Za v l) (!v) false (b.drop (Z5 (Za v l)).length)=some (l.drop (Za v l),(ZO (!v) (l.drop (Za v l))).length) :=
        (ih2 _ _).2 ⟨by simp;omega,fun _=>UI (XU v l),h4.2,rfl⟩
       rw[hr,Option.map_some,h5]
       congr 2
       ·exact (QN v l).symm
       ·rw[YY hl,List.length_append]
 intro n hn v first b l u
 exact main _ n v first rfl hn b l u
end Go.Proofs.YtgmdimbiipemhaaGreatDoor
namespace Go.Proofs.YtgmdimbiipemhaaGreatDoor
open Go.RowKit Go.Deep
section
variable {P:Program} {w:World} {α:Type} {ea:α→List Value} {k:Nat} {e:TypeId} {base:Nat} {v vx:Value} {l ys:List α}
theorem QS (t ty:TypeId) (i:TypeInfo) (ht:P.underlying t=some (.slice e)) (hi:P.info? e=some i) (b:Option Addr) (n cap c:Nat) (hc:n≤cap) :
  (Builtin.append_ #[t,t] ty #[.slice b n cap,.slice none 0 c]).run P w=.ok (.slice b n cap) w:=by
 cases b <;> simp[Builtin.append_,run_underlying ht,sizeOf,typeInfo,hi,Builtin.lenOf,Builtin.firstCells,loadCells,loadCellsFrom,storeCells,hc]
theorem Yl (t ty:TypeId) (i:TypeInfo) (z:Value) (bytes:Nat) (ht:P.underlying t=some (.slice e)) (hi:P.info? e=some i) (hz:i.zero=some z)
  (hsize:i.size=k) (hby:i.bytes=bytes) (hzs:z.cells.size=k) (hk0:0<k) (hk:∀ x,(ea x).length=k) (h1:∀ x,∀ u∈ea x,u.oneCell'=true)
  (hown:Own ea k e base w v l) (hx:Z0 ea k w vx ys) (h63:l.length+ys.length≤maxLen) (hbytes:(l.length+ys.length)*bytes≤140737488355328) (hbase:base≤w.heap.size) :
  ∃ v' w',(Builtin.append_ #[t,t] ty #[v,vx]).run P w=.ok v' w'∧Own ea k e base w' v' (l++ys)∧Ext (fun b=>v.ownBlock=some b) w w':=by
 obtain ⟨a,cap,rfl,hcap,hmax,hcs⟩:=hx
 cases a with
 | none =>
  have hys:ys=[]:=Classical.byContradiction fun hn=>by obtain ⟨b,o,e,_⟩:=hcs hn;cases e
  subst hys
  obtain ⟨sa,sc,rfl,hsc,_⟩:=hown.slice hk
  refine ⟨_,w,QS t ty i ht hi sa l.length sc cap hsc,by rw[List.append_nil];exact hown,Ext.refl _ _⟩
 | some ad =>
  have hnews:∀ j u,(ys.flatMap ea)[j]?=some u→w.cell? (ad.add j)=some u:=fun j u hj=>by
   have hne:ys≠[]:=fun e=>by rw[e] at hj;simp at hj
   obtain ⟨b,o,e,h2⟩:=hcs hne
   cases e
   have hjl:=(List.getElem?_eq_some_iff.1 hj).1
   rw[Zx hk] at hjl
   have hdm:j / k*k+j % k=j:=by rw[Nat.mul_comm];exact Nat.div_add_mod j k
   have hq:j / k<ys.length:=Nat.div_lt_of_lt_mul (by rw[Nat.mul_comm];exact hjl)
   obtain ⟨x,hx⟩:∃ x,ys[j / k]?=some x:=⟨_,List.getElem?_eq_getElem hq⟩
   obtain ⟨u',hu'⟩:∃ u',(ea x)[j % k]?=some u':=⟨_,List.getElem?_eq_getElem (by rw[hk];exact Nat.mod_lt _ hk0)⟩
   have h3:=getElem?_flatMap_k hk ys (j / k) x hx (j % k) u' hu'
   rw[hdm,hj] at h3
   cases h3
   have h4:=h2 (j / k) x hx (j % k) u hu'
   rw[Nat.add_assoc,hdm] at h4
   rw[show (Addr.add ⟨b,o,none⟩ j)=⟨b,o+j,none⟩ from by unfold Addr.add;split <;> simp_all]
   exact h4
  obtain ⟨v',w',h2,h3,h4,_⟩:=run_append_own (P:=P) w base t ty e i z k bytes ht hi hz hsize hby hzs hk0 v l.length (l.flatMap ea) hown ad ys.length cap (ys.flatMap ea) (Zx hk ys) hnews
   (fun u hu=>by obtain ⟨x,_,hx⟩:=List.mem_flatMap.1 hu;exact h1 x u hx) h63 hbytes hbase
  refine ⟨v',w',h2,?_,Ext.of_grown h4⟩
  unfold Own
  rw[List.length_append,List.flatMap_append]
  exact h3
end
theorem Own.below1 {α:Type} {ea:α→List Value} {k:Nat} {e:TypeId} {base:Nat} {w w':World} {v:Value} {l:List α} (h:Own ea k e base w v l) (hb:Below w.heap.size w w'):Own ea k e base w' v l :=
 h.ext (Ext.of_below (S:=fun _=>False) hb) (fun _ _=>id)
theorem ZF {base:Nat} {w0 w:World} {v vx:Value} {out ys:List UInt8} (ho:Own u8c 1 5 base w v out) (hb:Below base w0 w) (hx:Z0 u8c 1 w vx ys) (hbase:base≤w.heap.size) (hl:out.length+ys.length≤140737488355328) :
  ∃ (s:Sl) (w':World),(Builtin.append_ #[22,22] 22 #[v,vx]).run Tryz.prog w=.ok (.slice s.a s.n s.cap) w'∧Own u8c 1 5 base w' (.slice s.a s.n s.cap) (out++ys)∧Below base w0 w'∧base≤w'.heap.size:=by
 obtain ⟨i0,hi,hz0,hz1,hz2⟩:=info_parts YO
 obtain ⟨v',w',hr,ho2,hx2⟩:=Yl (P:=Tryz.prog) 22 22 i0 _ 1 Tryz.underlying22 hi hz0 hz1 hz2 rfl (by omega) Z7 Wt ho hx (by unfold maxLen;omega) (by omega) hbase
 obtain ⟨s,rfl⟩:=ho2.sl
 exact ⟨s,w',hr,ho2,Ext.new hb hx2 (fun i hi _ e=>by have:=(ho.blk i e).1;omega) hbase,Nat.le_trans hbase hx2.size⟩
section
variable {α:Type} [DecidableEq α]
theorem Z3e {x:α}:∀ {l:List α} {m:Nat},m<Za x l→l[m]?=some x
 | [],m,h=>by simp[Za] at h
 | y :: l,m,h=>by
  unfold Za at h
  split at h
  ·rename_i e
   cases m with
   | zero=>simp[e]
   | succ m=>rw[List.getElem?_cons_succ];exact Z3e (by omega)
  ·omega
theorem Z4Z (x:α) (l:List α):l[Za x l]?≠some x:=by
 have:=XU x l
 rwa [List.head?_drop] at this
theorem Ru {x y:α} {l:List α} {i k:Nat} (hik:i≤k) (hc:k - i≤Za x (l.drop i)) (hk:l[k]?=some y):(y=x→k+1 - i≤Za x (l.drop i))∧(y≠x→k - i=Za x (l.drop i)):=by
 have hd:(l.drop i)[k - i]?=some y:=by rw[List.getElem?_drop,show i+(k - i)=k by omega];exact hk
 constructor
 ·rintro rfl
  have:k - i≠Za y (l.drop i):=fun e=>Z4Z y (l.drop i) (by rw[←e];exact hd)
  omega
 ·intro hne
  rcases Nat.lt_or_ge (k - i) (Za x (l.drop i)) with h|h
  ·have:=Z3e h
   rw[hd] at this
   exact absurd (Option.some.inj this) hne
  ·omega
theorem Sd {x:α} {l:List α} {i:Nat} (hi:i≤l.length) (hc:l.length - i≤Za x (l.drop i)):l.length - i=Za x (l.drop i):=by
 have:=XC x (l.drop i)
 rw[List.length_drop] at this
 omega
end
theorem Z4Q:∀ (m:Nat) (v:Bool) (l:List Bool),2*l.length+(if l.head?=some v then 0 else 1)=m→l.length<18446744073709551616→(ZO v l).length≤10*l.length+(if l.head?=some v then 0 else 10):=by
 intro m
 induction m using Nat.strongRecOn with
 | ind m ih =>
  intro v l hm hl
  by_cases h:l=[]
  ·subst h;rw[Xt];simp
  ·rw[YY h,List.length_append]
   have h1:=VX v h
   have hle:=XC v l
   have h2:=ih _ (by rw[←hm];exact h1) (!v) (l.drop (Za v l)) rfl (by rw[List.length_drop];omega)
   have h3:(Z5 (Za v l)).length≤10:=(Wg _ 10 (by omega)).2 (by omega)
   rw[List.length_drop] at h2
   rw[List.length_drop] at h1
   rcases UI (XU v l) with h4|h4
   ·rw[h4,Xt]
    simp only[List.length_nil]
    have:0<l.length:=List.length_pos_iff.2 h
    omega
   ·rw[if_pos h4] at h2
    by_cases h5:l.head?=some v
    ·have h6:0<Za v l:=by
      cases l with
      | nil=>exact absurd rfl h
      | cons x l =>
       rw[List.head?_cons] at h5
       rw[Za,if_pos (Option.some.inj h5)]
       omega
     omega
    ·rw[if_neg h5];omega
theorem WA {l:List Bool} (hl:l.length<18446744073709551616):(Yu l).length≤10*l.length+10:=by
 have:=Z4Q _ false l rfl hl
 unfold Yu
 split at this <;> omega
theorem Uo:∀ (n:Nat) (l:List Int),l.length=n→n<18446744073709551616→(∀ x∈l,Yf x<18446744073709551616)→(Zc l).length≤20*l.length:=by
 intro n
 induction n using Nat.strongRecOn with
 | ind n ih =>
  intro l hn hl hz
  cases l with
  | nil=>simp[Zc]
  | cons x l =>
   have hle:=XC x l
   rw[List.length_cons] at hn
   rw[Zc,List.length_append,List.length_append,List.length_cons]
   have h1:(Z5 (Za x l+1)).length≤10:=(Wg _ 10 (by omega)).2 (by omega)
   have h2:(Z5 (Yf x)).length≤10:=(Wg _ 10 (by omega)).2 (by have:=hz x (by simp);omega)
   have h3:=ih (l.drop (Za x l)).length (by rw[List.length_drop];omega) _ rfl (by rw[List.length_drop];omega) (fun y hy=>hz y (List.mem_cons_of_mem _ (List.mem_of_mem_drop hy)))
   rw[List.length_drop] at h3
   omega
end Go.Proofs.YtgmdimbiipemhaaGreatDoor
namespace Go.Proofs.YtgmdimbiipemhaaGreatDoor
open Go
section
variable {P:Program} {ops:Array Oper} {Q:Exit→Act→World→Prop} {md:Region.Mode} {S:World→Prop}
end
end Go.Proofs.YtgmdimbiipemhaaGreatDoor
namespace Go.Proofs.YtgmdimbiipemhaaGreatDoor
open Go.RowKit
section
variable {P:Program} {w:World} {α:Type} {ea:α→List Value} {k:Nat} {e:TypeId} {base:Nat} {v vx:Value} {l ys:List α}
theorem Z0.ext {S:Nat→Prop} {w':World} (h:Z0 ea k w v l) (hx:Ext S w w') (hn:∀ b o n cap,v=.slice (some ⟨b,o,none⟩) n cap→¬ S b):Z0 ea k w' v l:=by
 obtain ⟨a,cap,rfl,h2,h3,h4⟩:=h
 refine ⟨a,cap,rfl,h2,h3,fun hl=>?_⟩
 obtain ⟨b,off,h5,h6⟩:=h4 hl
 exact ⟨b,off,h5,fun i x hi j u hj=>hx.keep (h6 i x hi j u hj) (hn b off l.length cap (by rw[h5]))⟩
theorem Own.empty (ea:α→List Value) (k:Nat) (e:TypeId) {w:World} (hb:base≤w.heap.size):Own ea k e base (w.alloc (.cells #[] e)) (.slice (some ⟨w.heap.size,0,none⟩) 0 0) ([]:List α) :=
 ⟨by simp,.inr ⟨w.heap.size,0,#[],rfl,hb,heap_alloc_new w _,Nat.le_refl _,Nat.zero_le _,by simp,by simp⟩⟩
theorem Z0.one (x:α) (e:TypeId) {w:World}:Z0 ea k (w.alloc (.cells (ea x).toArray e)) (.slice (some ⟨w.heap.size,0,none⟩) 1 1) [x]:=by
 refine ⟨_,1,rfl,Nat.le_refl _,by unfold maxLen;omega,fun _=>⟨w.heap.size,0,rfl,fun i y hi j u hj=>?_⟩⟩
 have hi0:i=0:=by
  have:=(List.getElem?_eq_some_iff.1 hi).1
  simpa using this
 subst hi0
 simp only[List.getElem?_cons_zero,Option.some.injEq] at hi
 subst hi
 have:=heap_alloc_new w (.cells (ea x).toArray e)
 simp only[World.cell?,this,Nat.zero_mul,Nat.zero_add]
 simpa using hj
end
section
variable {P:Program} {ops:Array Oper} {Q:Exit→Act→World→Prop} {md:Region.Mode} {S:World→Prop}
end
end Go.Proofs.YtgmdimbiipemhaaGreatDoor
namespace Go.Proofs.YtgmdimbiipemhaaGreatDoor
open Go.RowKit Go.Deep
theorem YR {P:Program} {ops:Array Oper} {rest:List Oper} {o:Oper} {a:Act} {w:World} {Q:Exit→Act→World→Prop} (hgd:o.guard=none) (s x:Operand) (t:TypeId)
  (ho:o.op=.call { callee:=.builtin .append,args:=#[s,x],argTypes:=#[t,t] }) {v vx v':Value} {w':World} (hs:a.eval s=v) (hx:a.eval x=vx)
  (hr:(Builtin.append_ #[t,t] o.type #[v,vx]).run P w=.ok v' w') (h:wpList P ops Q rest (a.put o.dst v') w'):wpList P ops Q (o :: rest) a w :=
 wpList_plain hgd fun _ hK=>by
  have hv:(execOp a.eval o).run P w=.ok (.value v') w':=by
   unfold execOp
   simp only[ho,resolve,invoke,builtin,Sem.run_bind,Sem.run_pure,Result.andThen_ok,List.map_toArray,List.map_cons,List.map_nil,hs,hx,hr]
  rw[Oper.wp,hv]
  exact hK _ _ h
theorem Z3z {bs:List UInt8} {vx:Value} {w:World} (h:Z0 u8c 1 w vx bs) (hl:bs.length≤70368744177664) :
  Calls Tryz.prog 71 #[vx] w fun e w'=>∃ v',e=.returned v'∧Own u8c 1 5 w.heap.size w' v' bs∧Below w.heap.size w w':=by
 obtain ⟨i0,hi,hz0,hz1,hz2⟩:=info_parts YO
 have h0:=h
 obtain ⟨a,cap,rfl,hcap,hmax,hcs⟩:=h
 cases a with
 | none =>
  have hys:bs=[]:=Classical.byContradiction fun hn=>by obtain ⟨b,o,e,_⟩:=hcs hn;cases e
  subst hys
  clear h0 hcs
  have hnil:=fun (w:World) a n c=>Lib.run_eql_slice_nil (P:=Tryz.prog) w 22 _ a n c 0 0 Tryz.underlying22
  go_enter Tryz.func71,Tryz.ntmps71
  go_wp2
  go_ret
  exact ⟨_,rfl,Own.nil,Below.refl _ _⟩
 | some ad =>
  have ho:=Own.empty (base:=w.heap.size) u8c 1 5 (w:=w) (Nat.le_refl _)
  have hx:=h0.below ((Below.refl w.heap.size w).alloc (Nat.le_refl _) (.cells #[] 5))
  obtain ⟨v',w',hr,hown,hx'⟩:=Yl (P:=Tryz.prog) 22 22 i0 _ 1 Tryz.underlying22 hi hz0 hz1 hz2 rfl (by omega) Z7 Wt ho hx (by simp[maxLen];omega) (by simp;omega) (by simp)
  have hB:=Ext.new ((Below.refl w.heap.size w).alloc (Nat.le_refl _) (.cells #[] 5)) hx' (fun i hi _ e=>by have:=(ho.blk i e).1;omega) (by simp)
  have HR:=Lib.hid hr
  have HO:=Lib.hid hown
  have HB:=Lib.hid hB
  clear h0 hcs ho hx hr hown hx' hB
  have hnil:=fun (w:World) a n c=>Lib.run_eql_slice_nil (P:=Tryz.prog) w 22 _ a n c 0 0 Tryz.underlying22
  go_enter Tryz.func71,Tryz.ntmps71
  go_wp2_with (at_builtin;refine YR rfl _ _ _ rfl rfl rfl HR.out ?_)
  go_ret
  exact ⟨_,rfl,HO.out,HB.out⟩
theorem Z4D:(Tryz.prog.info? 131).map (fun i=>(i.zero,i.size,i.bytes))=some (some (.agg #[.slice none 0 0,.int .i64 0,.int .i64 0]),3,40):=by kernel_rfl
def Yh (f:Nat) (bs:List UInt8) (A:Z4):Z4:={ A with now:=A.now+1,fs:=fun g=>if g=f then A.fs f++[⟨bs,A.now+1,0⟩] else A.fs g }
theorem SM (ps:List PcA) (p:PcA):ZQ (ps++[p])=ZQ ps+p.bs.length:=by simp[ZQ]
theorem Z46 (W:World) (sa:Option Addr) (sn sc:Nat) (n:Int):∀ j u,(Pc.cells ⟨⟨sa,sn,sc⟩,n,0⟩)[j]?=some u→(W.alloc (.cells #[.slice sa sn sc,.int .i64 n,.int .i64 0] 131)).cell? ⟨W.heap.size,j,none⟩=some u:=by
 intro j u hj
 rw[World.cell?_alloc_at _ _ _ _ rfl,←hj,Pc.cells]
 simp
theorem Z5B {w:World} {v u:Value} {bs:List UInt8} {p:Addr} {n:Int} (h:Z0 u8c 1 w v bs) (hp:w.cell? p=some (.int .i64 n)):Z0 u8c 1 (w.setCell p u) v bs:=by
 obtain ⟨a,cap,h1,h2,h3,h4⟩:=h
 refine ⟨a,cap,h1,h2,h3,fun hl=>?_⟩
 obtain ⟨b,off,h5,h6⟩:=h4 hl
 refine ⟨b,off,h5,fun i x hi j z hj=>?_⟩
 have h7:=h6 i x hi j z hj
 rw[World.cell?_setCell_other]
 ·exact h7
 ·rintro rfl
  rw[hp] at h7
  cases h7
  have hj0:j=0:=by
   have:=(List.getElem?_eq_some_iff.1 hj).1
   simp[u8c] at this
   exact this
  subst hj0
  simp[u8c] at hj
theorem Z53 {base:Nat} {w w3 w5 w6:World} {D:DSh} {A:Z4} {f:Nat} {bs:List UInt8} {va:Option Addr} {vcap:Nat} {qs:List Pc} {s5:Sl} {v6:Value} {o:Obj} (h:Zd base w D A) (hx3:Ext (Wo D A) w w3) (hs3:w3.heap.size=w.heap.size) (hbw:base≤w3.heap.size)
  (h3:Zd base w3 D { A with now:=A.now+1 }) (hf:f∈A.ids) (hvc:D.rv f=.slice va qs.length vcap) (hql:qs.length=(A.fs f).length) (hqp:∀ (i:Nat) q p,qs[i]?=some q→(A.fs f)[i]?=some p→Z0X base w3 q p)
  (b5:Below w3.heap.size w3 w5) (own5:Own u8c 1 5 w3.heap.size w5 s5.val bs) (hown6:Own Pc.cells 3 131 base w6 v6 (qs++[⟨s5,A.now+1,0⟩])) (hx6:Ext (fun b=>(Value.slice va qs.length vcap).ownBlock=some b) (w5.alloc o) w6)
  (hnw6:∀ b,v6.ownBlock=some b→(Value.slice va qs.length vcap).ownBlock=some b∨(w5.alloc o).heap.size≤b) (hb6:w6.heap[f]?=some (.cells #[.slice va qs.length vcap,.int .i64 (ZQ (A.fs f))] 124 (0,0))) (hroom:ZQ (A.fs f)+bs.length≤1048576) :
  Zl base w D A ((w6.setCell ⟨f,0,none⟩ v6).setCell ⟨f,1,none⟩ (.int .i64 ((ZQ (A.fs f):Int)+bs.length))) { D with rv:=fun g=>if g=f then v6 else D.rv g } (Yh f bs A):=by
 have hx9:Ext (fun b=>b=f∨(D.rv f).ownBlock=some b) w3 ((w6.setCell ⟨f,0,none⟩ v6).setCell ⟨f,1,none⟩ (.int .i64 ((ZQ (A.fs f):Int)+bs.length))):=by
  refine Ext.setCell (Ext.setCell ?_ (.inr (.inl rfl)) _) (.inr (.inl rfl)) _
  exact ((Ext.of_below b5).alloc o).andThen hx6 (fun b _ hb=>.inr (by rw[hvc];exact hb))
 have hb9:((w6.setCell ⟨f,0,none⟩ v6).setCell ⟨f,1,none⟩ (.int .i64 ((ZQ (A.fs f):Int)+bs.length))).heap[f]?=some (.cells #[v6,.int .i64 ((ZQ (A.fs f):Int)+bs.length)] 124 (0,0)):=by
  rw[Joins.block_setCell (Joins.block_setCell hb6 _)]
  rfl
 have hx69:Ext (·=f) w6 ((w6.setCell ⟨f,0,none⟩ v6).setCell ⟨f,1,none⟩ (.int .i64 ((ZQ (A.fs f):Int)+bs.length))):=(Xd _ _ _ _).andThen (Xd _ _ _ _) (fun _ _=>id)
 have hx59:Ext (fun b=>b=f∨(D.rv f).ownBlock=some b) w5 ((w6.setCell ⟨f,0,none⟩ v6).setCell ⟨f,1,none⟩ (.int .i64 ((ZQ (A.fs f):Int)+bs.length))) :=
  (((Ext.refl _ w5).alloc o).andThen hx6 (fun b _ hb=>.inr (by rw[hvc];exact hb))).andThen hx69 (fun b _ hb=>.inl hb)
 have tf:=(h3.file f hf).tag
 have trow:∀ b,(D.rv f).ownBlock=some b→YD w3 b=some 131:=fun b hb=>((h3.file f hf).row hb).1
 have hv:∀ b,v6.ownBlock=some b→(D.rv f).ownBlock=some b∨w3.heap.size≤b:=fun b hb=>by
  rcases hnw6 b hb with e|e
  ·exact .inl (by rw[hvc];exact e)
  ·refine .inr (Nat.le_trans b5.size (Nat.le_trans ?_ e))
   simp
 have hsz:ZQ (A.fs f++[⟨bs,A.now+1,0⟩])≤1048576:=by rw[SM];exact hroom
 have hfile:Wu base ((w6.setCell ⟨f,0,none⟩ v6).setCell ⟨f,1,none⟩ (.int .i64 ((ZQ (A.fs f):Int)+bs.length))) f v6 (A.fs f++[⟨bs,A.now+1,0⟩]):=by
  refine ⟨(h3.file f hf).1,?_,_,hown6.ext hx69 (fun b hb e=>ZK (Zj hown6 hb) (YU hb6) (by decide) e),by simp[hql],fun i q p hq hp=>?_⟩
  ·rw[hb9,SM]
   simp
  ·by_cases hi:i<qs.length
   ·rw[List.getElem?_append_left hi] at hq
    rw[List.getElem?_append_left (by omega)] at hp
    refine (hqp i q p hq hp).ext hx9 (fun b hb ht e=>?_)
    rcases e with rfl|e
    ·exact ZK ht tf (by decide) rfl
    ·exact ZK ht (trow b e) (by decide) rfl
   ·have hi2:i=qs.length:=by
     have:=(List.getElem?_eq_some_iff.1 hq).1
     simp at this
     omega
    subst hi2
    simp at hq
    rw[hql] at hp
    simp at hp
    subst hq hp
    refine ⟨(own5.ext hx59 (fun b hb e=>?_)).mono hbw,rfl,rfl⟩
    have hlb:=(own5.blk b hb).1
    rcases e with rfl|e
    ·have:=(h3.file b hf).lt;omega
    ·have:=Vn (trow b e);omega
 have hT:=h3.turn hx9 hf (fun b _ hb=>hb) hfile hv hsz
 exact {
  is_:=hT
  pb:=rfl
  ext:=hx3.andThen hx9 (fun b _ hb=>.inr (.inr (.inr (.inr (.inr ⟨f,hf,hb⟩)))))
  foot:=fun b hb=>by
   rcases hb with e|e|e|e|e|⟨g,hg,e⟩
   ·exact .inl (.inl e)
   ·exact .inl (.inr (.inl e))
   ·exact .inl (.inr (.inr (.inl e)))
   ·exact .inl (.inr (.inr (.inr (.inl e))))
   ·exact .inl (.inr (.inr (.inr (.inr (.inl e)))))
   ·by_cases hgf:g=f
    ·subst hgf
     dsimp only at e
     rw[if_pos rfl] at e
     rcases e with e|e
     ·exact .inl (.inr (.inr (.inr (.inr (.inr ⟨g,hg,.inl e⟩)))))
     ·rcases hv b e with e|e
      ·exact .inl (.inr (.inr (.inr (.inr (.inr ⟨g,hg,.inr e⟩)))))
      ·exact .inr (by omega)
    ·dsimp only at e
     rw[if_neg hgf] at e
     exact .inl (.inr (.inr (.inr (.inr (.inr ⟨g,hg,e⟩))))) }
def Z1c (base:Nat) (w:World) (D:DSh) (A:Z4) (name:ByteArray) (bs:List UInt8) (e:Ending) (w':World):Prop :=
 (Zb A.files name=none∧e=.returned (.int .i64 61)∧Zl base w D A w' D A)∨(∃ f,Zb A.files name=some f∧1048576<ZQ (A.fs f)+bs.length∧e=.returned (.int .i64 62)∧Zl base w D A w' D A) ∨
   (∃ f D',Zb A.files name=some f∧ZQ (A.fs f)+bs.length≤1048576∧e=.returned (.int .i64 0)∧Zl base w D A w' D' (Yh f bs A))
theorem Z0s {base:Nat} {w:World} {D:DSh} {A:Z4} (h:Zd base w D A) (hbw:base≤w.heap.size) (name:ByteArray) (vx:Value) (bs:List UInt8) (hvx:Z0 u8c 1 w vx bs) (hlb:bs.length≤70368744177664) {N:Nat} (hsm:A.Small N) (hN:N≤1000000000) :
  Calls Tryz.prog 30 #[.pointer (some ⟨D.pb,0,none⟩),.string name,vx] w fun e w' =>
   Z1c base w D A name bs e w':=by
 obtain ⟨i0,hi,hz0,hz1,hz2⟩:=info_parts Z4D
 obtain ⟨xa,xc,rfl,hxc,hxm,_⟩:=id hvx
 unfold maxLen at hxm
 have HVX:=Lib.hid hvx
 clear hvx
 go_enter Tryz.func30,Tryz.ntmps30
 go_wp2_with fail
 refine (UJ h name).mono ?_
 rintro e w1 ⟨rfl,rfl⟩
 unfold Sx
 cases hg:Zb A.files name with
 | none =>
  simp only[Option.isSome_none,WC,Option.map_none]
  have HH:=Lib.hid h
  clear h
  go_wp2
  go_ret
  exact .inl ⟨hg,rfl,Zl.refl HH.out⟩
 | some f =>
  simp only[Option.isSome_some,WC,Option.map_some,if_true]
  have hf:=(h.ok.inf _ _ (UT hg)).1
  have hsz:=h.ok.sz f hf
  have hF:=h.file f hf
  have fb:=hF.2.1
  have s1:=Joins.cell_of_block fb 1
  simp only[List.getElem?_toArray,List.getElem?_cons_succ,List.getElem?_cons_zero] at s1
  have HG:=Lib.hid hg
  have HH:=Lib.hid h
  have HF:=Lib.hid hf
  have HFB:=Lib.hid fb
  by_cases hroom:1048576<ZQ (A.fs f)+bs.length
  ·have h9:(1048576:Int) - (ZQ (A.fs f):Int)<(bs.length:Int):=by omega
   have HR:=Lib.hid hroom
   clear h hf fb hF hg hroom
   go_wp2
   go_ret
   exact .inr (.inl ⟨f,HG.out,HR.out,rfl,Zl.refl HH.out⟩)
  ·have h9:¬ (1048576:Int) - (ZQ (A.fs f):Int)<(bs.length:Int):=by omega
   have hroom':ZQ (A.fs f)+bs.length≤1048576:=by omega
   have HR:=Lib.hid hroom'
   have hn1:=hsm.now
   have hn0:=hsm.now0
   have k0:=Joins.cell_of_block h.blk 4
   have k1:=Joins.unfrozen_of_block h.blk 4
   simp only[List.getElem?_toArray,List.getElem?_cons_succ,List.getElem?_cons_zero] at k0
   have hfp:f≠D.pb:=ZK hF.tag h.tpb (by decide)
   clear h hf fb hF hg hroom hroom'
   go_upto_region 7 with fail
   have h3:=HH.out.tick
   have hx3:Ext (Wo D A) w1 (w1.setCell ⟨D.pb,4,none⟩ (.int .i64 (A.now+1))):=(Ext.refl _ w1).setCell (p:=⟨D.pb,4,none⟩) (.inr (.inl rfl)) _
   have hvx3:Z0 u8c 1 (w1.setCell ⟨D.pb,4,none⟩ (.int .i64 (A.now+1))) (.slice xa bs.length xc) bs:=Z5B HVX.out k0
   obtain ⟨w3,hw3⟩:=Je (w1.setCell ⟨D.pb,4,none⟩ (.int .i64 (A.now+1)))
   have hs3:w3.heap.size=w1.heap.size:=by rw[←hw3,World.size_setCell]
   rw[hw3] at h3 hx3 hvx3 ⊢
   have HX3:=Lib.hid hx3
   have HS3:=Lib.hid hs3
   have HVX3:=Jh (hvx3.below (Below.refl _ _).drew)
   have hbw3:base≤w3.heap.size:=by omega
   clear hw3 hx3 hs3 hvx3 k0 k1 s1
   have hF3:=h3.file f HF.out
   obtain ⟨hbf,hfb3,qs,hqo,hql,hqp⟩:=id hF3
   obtain ⟨va,vcap,hvc⟩:∃ va vcap,D.rv f=.slice va qs.length vcap:=by
    rcases hqo.eq_slice with ⟨e,e2⟩|⟨g,c,e,_⟩
    ·exact ⟨none,0,by rw[e,e2];rfl⟩
    ·exact ⟨_,_,e⟩
   have hlq:qs.length≤1000000001:=by have:=hsm.pcs f HF.out;dsimp only at hql;omega
   have b3:=h3.blk
   have c4:=Joins.cell_of_block b3 4
   have f0:=Joins.cell_of_block hfb3 0
   simp only[List.getElem?_toArray,List.getElem?_cons_succ,List.getElem?_cons_zero,hvc] at c4 f0
   have hown3:=hqo
   rw[hvc] at hown3
   have hfl:f<w3.heap.size:=hF3.lt
   have HFB3:=Lib.hid hfb3
   have HVC:=Lib.hid hvc
   have HOW:=Lib.hid hown3
   have HQP:=Lib.hid hqp
   have HQL:=Lib.hid hql
   have H3:=Lib.hid h3
   clear h3 hF3 hfb3 hqo hql hqp hvc b3 hown3 hsm
   have HCL:=Jh (fun W (h:Z0 u8c 1 W (.slice xa bs.length xc) bs)=>Z3z h hlb)
   have hnr:¬ (Value.slice va qs.length vcap).ownBlock=some f:=fun e=>ZK (Zj HOW.out e) (H3.out.file f HF.out).tag (by decide) rfl
   have HNR:=Lib.hid hnr
   clear hnr
   go_region_law (first
    | (refine Z5W (f:=71) (args:=#[.slice xa bs.length xc]) rfl (by first|(go_simp;done)|(go_simp;first|rfl|exact ⟨rfl,rfl⟩|exact ⟨⟨rfl,rfl⟩,rfl⟩)) ?_;(with_reducible refine (HCL.out _ HVX3.out).mono ?_);rintro e w5 ⟨v5,rfl,own5,b5⟩;refine ⟨_,rfl,?_⟩;simp only[Z5O,Z4S] at b5 own5;obtain ⟨⟨sa,sn,sc⟩,e5⟩:=own5.slv;change v5=.slice sa sn sc at e5;subst e5;have c45:=Y9 b5 c4;have f05:=Y9 b5 f0;have f06:=Zt f05 (.cells #[.slice sa sn sc,.int .i64 (A.now+1),.int .i64 0] 131);have HB5:=Lib.hid b5;have HO5:=Lib.hid own5;have how5:=(HOW.out.ext (Ext.of_below (S:=fun _=>False) b5) (fun _ _=>id)).alloc (.cells #[.slice sa sn sc,.int .i64 (A.now+1),.int .i64 0] 131);have HOW5:=Lib.hid how5;have hs5:=b5.size;have hall5:∀ w6,Ext (fun b=>(Value.slice va qs.length vcap).ownBlock=some b) (w5.alloc (.cells #[.slice sa sn sc,.int .i64 (A.now+1),.int .i64 0] 131)) w6→w6.heap[f]?=some (.cells #[.slice va qs.length vcap,.int .i64 (ZQ (A.fs f))] 124 (0,0)):=(fun w6 hx6=>by
       rw[hx6.block f (by simp;omega) HNR.out,Below.heap_alloc _ _ _ (by omega),b5.block f hfl,HFB3.out,HVC.out]);have HALL5:=Lib.hid hall5;clear b5 own5 how5 hall5)
    | (refine WL (v:=.slice va qs.length vcap) (l:=qs) rfl (.tmp 37) (.tmp 45) 122 rfl i0 _ 40 Tryz.underlying122 hi hz0 hz1 hz2 rfl (by omega) Pc.len Pc.one rfl HOW5.out ⟨⟨sa,sn,sc⟩,A.now+1,0⟩ w5.heap.size 1 rfl (Z46 _ _ _ _ _) (by unfold maxLen;omega) (by omega) (by simp;omega) ?_;intro v' w6 hown6 hx6 hnw6;obtain ⟨g6,cp6,rfl⟩:∃ g c,v'=.slice (some ⟨g,0,none⟩) (qs.length+1) c:=(by rcases hown6.eq_slice with ⟨_,h⟩|⟨g,c,h,_⟩;(simp at h);exact ⟨g,c,by simpa using h⟩);have hb6:=HALL5.out w6 hx6;have g1:=Joins.unfrozen_of_block hb6 0;have g2:=Joins.cell_of_block hb6 0))
   all_goals
    have HX6:=Lib.hid hx6
    have HN6:=Lib.hid hnw6
    have HO6:=Lib.hid hown6
    have HB6:=Lib.hid hb6
    have c1:=Joins.cell_of_block hb6 1
    have c2:=Joins.unfrozen_of_block hb6 1
    clear hx6 hnw6 hown6 hb6 g1 g2
    go_wp2
    go_ret
    exact .inr (.inr ⟨f,_,HG.out,HR.out,rfl,Z53 (s5:=⟨sa,sn,sc⟩) HH.out HX3.out HS3.out hbw3 H3.out HF.out HVC.out HQL.out HQP.out HB5.out HO5.out HO6.out HX6.out HN6.out HB6.out HR.out⟩)
section
variable {α:Type} {ea:α→List Value} {k:Nat} {e:TypeId} {base:Nat} {w:World}
end
def Vl (n:Int) (p:PcA):PcA:=if p.safe=0 then { p with safe:=n } else p
def SI (n:Int) (q:Pc):Pc:=if q.safe=0 then { q with safe:=n } else q
def Vz (n:Int) (k:Nat) (qs:List Pc):List Pc:=(qs.take k).map (SI n)++qs.drop k
theorem Z6J (n:Int) (k:Nat) (qs:List Pc):(Vz n k qs).length=qs.length:=by
 unfold Vz
 simp
 omega
theorem Z63 (n:Int) (qs:List Pc):Vz n 0 qs=qs:=by simp[Vz]
theorem Z7g (n:Int) (qs:List Pc):Vz n qs.length qs=qs.map (SI n):=by simp[Vz]
theorem Z16 {n:Int} {k:Nat} {qs:List Pc} {q:Pc} (h:qs[k]?=some q):(Vz n k qs)[k]?=some q:=by
 have hk:=(List.getElem?_eq_some_iff.1 h).1
 unfold Vz
 rw[List.getElem?_append_right (by simp;omega)]
 simp only[List.length_map,List.length_take,List.getElem?_drop]
 rw[show k+(k - min k qs.length)=k by omega]
 exact h
theorem Z27 {n:Int} {k:Nat} {qs:List Pc} {q:Pc} (h:qs[k]?=some q):Vz n (k+1) qs=(Vz n k qs).set k (SI n q):=by
 have hk:=(List.getElem?_eq_some_iff.1 h).1
 have hq:=(List.getElem?_eq_some_iff.1 h).2
 unfold Vz
 rw[List.set_append_right _ _ (by simp;omega),List.take_add_one,h,Option.toList_some,List.map_append,List.append_assoc]
 congr 1
 rw[List.drop_eq_getElem_cons hk]
 simp only[List.length_map,List.length_take]
 rw[show k - min k qs.length=0 by omega]
 rfl
def ZV (f:Nat) (A:Z4):Z4:={ A with now:=A.now+1,fs:=fun g=>if g=f then (A.fs f).map (Vl (A.now+1)) else A.fs g }
theorem Z6V {base:Nat} {w w3 w9:World} {D:DSh} {A:Z4} {f:Nat} {qs:List Pc} (hx3:Ext (Wo D A) w w3)
  (h3:Zd base w3 D { A with now:=A.now+1 }) (hf:f∈A.ids) (hql:qs.length=(A.fs f).length) (hqp:∀ (i:Nat) q p,qs[i]?=some q→(A.fs f)[i]?=some p→Z0X base w3 q p)
  (hx9:Ext (fun b=>(D.rv f).ownBlock=some b) w3 w9) (hown:Own Pc.cells 3 131 base w9 (D.rv f) (qs.map (SI (A.now+1)))):Zl base w D A w9 D (ZV f A):=by
 have hsz:ZQ ((A.fs f).map (Vl (A.now+1)))=ZQ (A.fs f):=by
  unfold ZQ
  rw[List.map_map]
  congr 2
  funext p
  simp only[Function.comp_apply,Vl]
  split <;> rfl
 have hrow:=fun b (hb:(D.rv f).ownBlock=some b)=>((h3.file f hf).row hb).1
 have hfile:Wu base w9 f (D.rv f) ((A.fs f).map (Vl (A.now+1))):=by
  refine ⟨(h3.file f hf).1,?_,_,hown,by simp[hql],fun i q p hq hp=>?_⟩
  ·rw[hsz,hx9.block f (h3.file f hf).lt (fun e=>ZK (h3.file f hf).tag (hrow f e) (by decide) rfl)]
   exact (h3.file f hf).2.1
  ·rw[List.getElem?_map] at hq hp
   cases hq0:qs[i]? with
   | none=>rw[hq0] at hq;cases hq
   | some q0 =>
    cases hp0:(A.fs f)[i]? with
    | none=>rw[hp0] at hp;cases hp
    | some p0 =>
     rw[hq0] at hq
     rw[hp0] at hp
     cases hq
     cases hp
     obtain ⟨b1,b2,b3⟩:=(hqp i q0 p0 hq0 hp0).ext hx9 (fun b hb ht e=>ZK ht (hrow b e) (by decide) rfl)
     unfold SI Vl
     rw[b3]
     split
     ·exact ⟨b1,b2,rfl⟩
     ·exact ⟨b1,b2,b3⟩
 have hT:=h3.turn hx9 hf (fun b _ hb=>.inr hb) hfile (fun b hb=>.inl hb) (by rw[hsz];exact h3.ok.sz f hf)
 have hD:({ D with rv:=fun g=>if g=f then D.rv f else D.rv g }:DSh)=D:=by
  cases D
  congr 1
  funext g
  dsimp only
  split
  ·rename_i e;rw[e]
  ·rfl
 rw[hD] at hT
 exact ⟨hT,rfl,hx3.andThen hx9 (fun b _ hb=>.inr (.inr (.inr (.inr (.inr ⟨f,hf,.inr hb⟩))))),fun b hb=>.inl hb⟩
def Sk (base:Nat) (w:World) (D:DSh) (A:Z4) (name:ByteArray) (e:Ending) (w':World):Prop :=
 (Zb A.files name=none∧e=.returned (.int .i64 61)∧Zl base w D A w' D A)∨(∃ f,Zb A.files name=some f∧e=.returned (.int .i64 0)∧Zl base w D A w' D (ZV f A))
theorem Qr {base:Nat} {w:World} {D:DSh} {A:Z4} (h:Zd base w D A) (name:ByteArray) {N:Nat} (hsm:A.Small N) (hN:N≤1000000000) :
  Calls Tryz.prog 83 #[.pointer (some ⟨D.pb,0,none⟩),.string name] w fun e w'=>Sk base w D A name e w':=by
 go_enter Tryz.func83,Tryz.ntmps83
 go_wp2_with fail
 refine (UJ h name).mono ?_
 rintro e w1 ⟨rfl,rfl⟩
 unfold Sx
 cases hg:Zb A.files name with
 | none =>
  simp only[Option.isSome_none,WC,Option.map_none]
  have HH:=Lib.hid h
  clear h
  go_wp2
  go_ret
  exact .inl ⟨hg,rfl,Zl.refl HH.out⟩
 | some f =>
  simp only[Option.isSome_some,WC,Option.map_some,if_true]
  have hf:=(h.ok.inf _ _ (UT hg)).1
  have HG:=Lib.hid hg
  have HF:=Lib.hid hf
  have hn1:=hsm.now
  have hn0:=hsm.now0
  have k0:=Joins.cell_of_block h.blk 4
  have k1:=Joins.unfrozen_of_block h.blk 4
  simp only[List.getElem?_toArray,List.getElem?_cons_succ,List.getElem?_cons_zero] at k0
  have h3:=h.tick
  have hx3:Ext (Wo D A) w1 (w1.setCell ⟨D.pb,4,none⟩ (.int .i64 (A.now+1))):=(Ext.refl _ w1).setCell (p:=⟨D.pb,4,none⟩) (.inr (.inl rfl)) _
  obtain ⟨w3,hw3⟩:=Je (w1.setCell ⟨D.pb,4,none⟩ (.int .i64 (A.now+1)))
  rw[hw3] at h3 hx3
  have hF3:=h3.file f HF.out
  obtain ⟨hbf,hfb3,qs,hqo,hql,hqp⟩:=id hF3
  obtain ⟨va,vcap,hvc⟩:∃ va vcap,D.rv f=.slice va qs.length vcap:=by
   rcases hqo.eq_slice with ⟨e,e2⟩|⟨g,c,e,_⟩
   ·exact ⟨none,0,by rw[e,e2];rfl⟩
   ·exact ⟨_,_,e⟩
  have hlq:qs.length≤1000000001:=by have:=hsm.pcs f HF.out;dsimp only at hql;omega
  have b3:=h3.blk
  have c4:=Joins.cell_of_block b3 4
  have f0:=Joins.cell_of_block hfb3 0
  simp only[List.getElem?_toArray,List.getElem?_cons_succ,List.getElem?_cons_zero,hvc] at c4 f0
  have HX3:=Lib.hid hx3
  have HVC:=Lib.hid hvc
  have HQO:=Lib.hid hqo
  have HQP:=Lib.hid hqp
  have HQL:=Lib.hid hql
  have H3:=Lib.hid h3
  clear h h3 hF3 hfb3 hqo hql hqp hvc b3 hsm hx3 hf hg
  go_wp2_with fail
  go_loopg [30] qs.length (fun g iv wr=>∃ k:Nat,g=qs.length - k∧k≤qs.length∧iv=.int .i64 k∧Hid (Own Pc.cells 3 131 base wr (D.rv f) (Vz (A.now+1) k qs)∧Ext (fun b=>(D.rv f).ownBlock=some b) w3 wr))
  case atStart=>exact ⟨0,by omega,by omega,rfl,Lib.hid ⟨by rw[Z63];exact HQO.out,Ext.refl _ _⟩⟩
  case round =>
   obtain ⟨k,hg,hk,rfl,hU⟩:=hrel
   have HGG:=Lib.hid hg
   clear hg
   by_cases hkl:k<qs.length
   ·obtain ⟨q,hq⟩:∃ q,qs[k]?=some q:=⟨_,List.getElem?_eq_getElem hkl⟩
    have hlen:=Z6J (A.now+1) k qs
    obtain ⟨g,cap,e1,hgc,hcm⟩:∃ g cap,va=some ⟨g,0,none⟩∧qs.length≤vcap∧vcap≤maxLen:=by
     have ho:=HQO.out
     rw[HVC.out] at ho
     rcases ho.eq_slice with ⟨_,e2⟩|⟨g,c,e,_⟩
     ·rw[e2] at hkl;simp at hkl
     ·cases e
      obtain ⟨_,_,e3,e4,e5,_⟩:=ho.slice Pc.len
      cases e3
      exact ⟨g,0,rfl,e4,e5⟩
    subst e1
    unfold maxLen at hcm
    have ho:=hU.out.1
    rw[HVC.out,←hlen] at ho
    have hrw:∀ b,(D.rv f).ownBlock=some b→b=g:=fun b hb=>by rw[HVC.out] at hb;exact (Option.some.inj hb).symm
    have hgp:g≠D.pb:=ZK (Zj HQO.out (by rw[HVC.out];rfl)) H3.out.tpb (by decide)
    have hgf:g≠f:=ZK (Zj HQO.out (by rw[HVC.out];rfl)) (H3.out.file f HF.out).tag (by decide)
    have c4':=hU.out.2.keep c4 (fun e=>hgp (hrw _ e).symm)
    have f0':=hU.out.2.keep f0 (fun e=>hgf (hrw _ e).symm)
    have q2:=ho.cellAt Pc.len (Z16 hq) (j:=2) rfl
    have q3:=ho.free (k*3+2)
    have hkk:(k:Int)<(qs.length:Int):=by omega
    by_cases hs:q.safe=0
    ·have hy:Pc.cells (SI (A.now+1) q)=(Pc.cells q).set 2 (.int .i64 (A.now+1)):=by unfold SI;rw[if_pos hs];rfl
     have ho2:=ho.setAt Pc.len (Z16 hq) (j:=2) (by omega) hy
     rw[←Z27 hq,hlen,←HVC.out] at ho2
     have hx2:Ext (fun b=>(D.rv f).ownBlock=some b) w3 (wr.setCell ⟨g,k*3+2,none⟩ (.int .i64 (A.now+1))):=hU.out.2.setCell (.inr (by rw[HVC.out];rfl)) _
     rw[hs] at q2
     have HO2:=Jh (And.intro ho2 hx2)
     clear ho ho2 hx2 hU hrw hs hq hy hlen
     go_wp2_with fail
     go_roundg (qs.length - (k+1))
     case measure=>rw[HGG.out];omega
     case rel=>exact ⟨k+1,rfl,by omega,by simp,HO2⟩
    ·have hy:SI (A.now+1) q=q:=by unfold SI;rw[if_neg hs]
     have hk2:Vz (A.now+1) (k+1) qs=Vz (A.now+1) k qs:=by
      rw[Z27 hq,hy]
      obtain ⟨hk',e⟩:=List.getElem?_eq_some_iff.1 (Z16 (n:=A.now+1) hq)
      conv=>lhs;rw[←e]
      exact List.set_getElem_self hk'
     have HO2:Hid (Own Pc.cells 3 131 base wr (D.rv f) (Vz (A.now+1) (k+1) qs)∧Ext (fun b=>(D.rv f).ownBlock=some b) w3 wr):=Jh (by rw[hk2];exact hU.out)
     clear ho hU hrw hq hy hlen hk2
     go_wp2_with fail
     go_roundg (qs.length - (k+1))
     case measure=>rw[HGG.out];omega
     case rel=>exact ⟨k+1,rfl,by omega,by simp,HO2⟩
   ·obtain rfl:k=qs.length:=by omega
    have HT:=Jh (Z6V HX3.out H3.out HF.out HQL.out HQP.out hU.out.2 (by rw[←Z7g];exact hU.out.1))
    clear hU
    go_wp2
    go_ret
    exact .inr ⟨f,HG.out,rfl,HT.out⟩
end Go.Proofs.YtgmdimbiipemhaaGreatDoor
