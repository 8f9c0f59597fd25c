/- ViewBuilds, part 1 of what the proof leans on (made short by a program). -/
import Derived.Test.YtlgipkemoldckaaGreatDoorRows
import Derived.WalkSpells
import Derived.WalkLawsBesides
import Derived.Lib.Hide
import Derived.ProofKit
import Derived.Deep.Slices
import Derived.Deep.RegionHeld3
import Derived.Lib.AppendZerosOnto
import Derived.Shelf.Spec.SlicesInsert
import Derived.RangeFuncNested
import Derived.RangeFuncBound
import Derived.Shelf.RegionOpen
import Derived.OwnWalkIn
import Derived.LoopNIn
import Derived.LoopIn
import Derived.Deep.CutBlock
import Derived.Deep.DeepCutAuto
import Derived.Shelf.SlSortCmp.NoneTotal
set_option linter.unusedSimpArgs false
set_option linter.unusedVariables false
set_option linter.unusedSectionVars false
set_option maxRecDepth 20000
set_option maxHeartbeats 30000000
namespace Go.Proofs.YtlgipkemoldckaaGreatDoor
open Go.RowKit
def WO (a b:Int):Int:=if a<b then -1 else if b<a then 1 else 0
structure St where
 n:Int
 r:Int
 deriving DecidableEq
def St.val (s:St):Value:=.agg #[.int .i64 s.n,.int .i64 s.r]
def Z7 (s:St):Bool:=decide (1≤s.n∧s.n≤1048576∧0≤s.r∧s.r<8)
def Yc (a b:St):Int:=if WO a.n b.n != 0 then WO a.n b.n else WO a.r b.r
theorem V9 (a b:Int) (w:World) :
  Calls Tryz.prog 59 #[.int .i64 a,.int .i64 b] w fun e w'=>e=.returned (.int .i64 (WO a b))∧w=w':=by
 by_cases h1:a<b
 ·go_enter Tryz.func59,Tryz.ntmps59
  go_wp2
  go_ret
  exact ⟨by simp[WO,h1],rfl⟩
 ·by_cases h2:b<a
  ·go_enter Tryz.func59,Tryz.ntmps59
   go_wp2
   go_ret
   exact ⟨by simp[WO,h1,h2],rfl⟩
  ·go_enter Tryz.func59,Tryz.ntmps59
   go_wp2
   go_ret
   exact ⟨by rw[WO,if_neg (by omega),if_neg (by omega)];rfl,rfl⟩
theorem VP (a b c d:Int) (w:World) :
  Calls Tryz.prog 42 #[.agg #[.int .i64 a,.int .i64 b],.agg #[.int .i64 c,.int .i64 d]] w
   fun e w'=>e=.returned (.int .i64 (Yc ⟨a,b⟩ ⟨c,d⟩))∧Below w.heap.size w w':=by
 by_cases h1:(WO a c != 0)=true
 ·go_enter Tryz.func42,Tryz.ntmps42
  go_wp2_with (go_at_call 59;refine (V9 _ _ _).mono ?_;rintro e w' ⟨rfl,rfl⟩)
  go_ret
  exact ⟨by simp[Yc,h1],((Below.refl _ _).alloc (Nat.le_refl _) _).alloc (by simp) _⟩
 ·have h1:(WO a c != 0)=false:=by simpa using h1
  go_enter Tryz.func42,Tryz.ntmps42
  go_wp2_with (go_at_call 59;refine (V9 _ _ _).mono ?_;rintro e w' ⟨rfl,rfl⟩)
  go_ret
  exact ⟨by simp[Yc,h1],((Below.refl _ _).alloc (Nat.le_refl _) _).alloc (by simp) _⟩
theorem WW (a b:Int) (w:World) :
  Calls Tryz.prog 41 #[.agg #[.int .i64 a,.int .i64 b]] w
   fun e w'=>e=.returned (.bool (Z7 ⟨a,b⟩))∧Below w.heap.size w w':=by
 by_cases h1:1≤a
 ·by_cases h2:a≤1048576
  ·by_cases h3:0≤b
   ·by_cases h4:b<8
    ·have hr:Z7 ⟨a,b⟩=true:=by simp only[Z7,decide_eq_true_eq];exact ⟨h1,h2,h3,h4⟩
     rw[hr];clear hr
     go_enter Tryz.func41,Tryz.ntmps41
     go_wp2
     go_ret
     exact ⟨rfl,(Below.refl _ _).alloc (Nat.le_refl _) _⟩
    ·have hr:Z7 ⟨a,b⟩=false:=by simp only[Z7,decide_eq_false_iff_not];omega
     rw[hr];clear hr
     go_enter Tryz.func41,Tryz.ntmps41
     go_wp2
     go_ret
     exact ⟨rfl,(Below.refl _ _).alloc (Nat.le_refl _) _⟩
   ·have hr:Z7 ⟨a,b⟩=false:=by simp only[Z7,decide_eq_false_iff_not];omega
    rw[hr];clear hr
    go_enter Tryz.func41,Tryz.ntmps41
    go_wp2
    go_ret
    exact ⟨rfl,(Below.refl _ _).alloc (Nat.le_refl _) _⟩
  ·have hr:Z7 ⟨a,b⟩=false:=by simp only[Z7,decide_eq_false_iff_not];omega
   rw[hr];clear hr
   go_enter Tryz.func41,Tryz.ntmps41
   go_wp2
   go_ret
   exact ⟨rfl,(Below.refl _ _).alloc (Nat.le_refl _) _⟩
 ·have hr:Z7 ⟨a,b⟩=false:=by simp only[Z7,decide_eq_false_iff_not];omega
  rw[hr];clear hr
  go_enter Tryz.func41,Tryz.ntmps41
  go_wp2
  go_ret
  exact ⟨rfl,(Below.refl _ _).alloc (Nat.le_refl _) _⟩
theorem Jh {p:Prop} (h:p):Hid p:=Lib.hid h
theorem Je {α:Sort _} (a:α):∃ x,a=x:=⟨_,rfl⟩
structure Ext (S:Nat→Prop) (w w':World):Prop where
 os:w'.os=w.os
 tape:w'.tape=w.tape
 output:w'.output=w.output
 size:w.heap.size≤w'.heap.size
 block:∀ k,k<w.heap.size→¬ S k→w'.heap[k]?=w.heap[k]?
theorem Ext.refl (S:Nat→Prop) (w:World):Ext S w w:=⟨rfl,rfl,rfl,Nat.le_refl _,fun _ _ _=>rfl⟩
theorem Ext.trans {S:Nat→Prop} {a b c:World} (h:Ext S a b) (k:Ext S b c):Ext S a c :=
 ⟨k.os.trans h.os,k.tape.trans h.tape,k.output.trans h.output,Nat.le_trans h.size k.size,fun i hi hn=>(k.block i (Nat.lt_of_lt_of_le hi h.size) hn).trans (h.block i hi hn)⟩
theorem Ext.mono {S T:Nat→Prop} {w w':World} (h:Ext S w w') (hs:∀ k,k<w.heap.size→S k→T k):Ext T w w' :=
 ⟨h.os,h.tape,h.output,h.size,fun k hk hn=>h.block k hk (fun s=>hn (hs k hk s))⟩
theorem Ext.andThen {S T:Nat→Prop} {a b c:World} (h:Ext S a b) (k:Ext T b c) (hs:∀ i,i<a.heap.size→T i→S i):Ext S a c :=
 ⟨k.os.trans h.os,k.tape.trans h.tape,k.output.trans h.output,Nat.le_trans h.size k.size,fun i hi hn=>(k.block i (Nat.lt_of_lt_of_le hi h.size) (fun t=>hn (hs i hi t))).trans (h.block i hi hn)⟩
theorem Ext.drew {S:Nat→Prop} {a w:World} (h:Ext S a w):Ext S a w.drew:=⟨h.os,h.tape,h.output,h.size,h.block⟩
theorem Ext.alloc {S:Nat→Prop} {a w:World} (h:Ext S a w) (o:Obj):Ext S a (w.alloc o) :=
 h.trans ⟨rfl,rfl,rfl,by simp,fun k hk _=>Below.heap_alloc _ _ _ hk⟩
theorem Ext.setCell {S:Nat→Prop} {a w:World} (h:Ext S a w) {p:Addr} (hp:a.heap.size≤p.block∨S p.block) (u:Value):Ext S a (w.setCell p u) :=
 ⟨h.os,h.tape,h.output,by simpa [World.setCell] using h.size,fun k hk hn=>by
  rw[Below.heap_setCell _ _ _ _ (by intro e;subst e;rcases hp with hp|hp;omega;exact hn hp)];exact h.block k hk hn⟩
theorem Ext.of_below {S:Nat→Prop} {w w':World} (h:Below w.heap.size w w'):Ext S w w':=⟨h.os,h.tape,h.output,h.size,fun k hk _=>h.block k hk⟩
theorem Ext.cell {S:Nat→Prop} {w w':World} (h:Ext S w w') {p:Addr} (hp:p.block<w.heap.size) (hn:¬ S p.block):w'.cell? p=w.cell? p:=World.cell?_of_block (w:=w) (h.block p.block hp hn)
theorem ZJ {B:Nat} {w w':World}:Below B w.drew w'↔Below B w w':=⟨fun h=>⟨h.os,h.tape,h.output,h.size,h.block⟩,fun h=>⟨h.os,h.tape,h.output,h.size,h.block⟩⟩
theorem ZR (w:World):w.drew.heap=w.heap:=rfl
theorem Ext.new {S:Nat→Prop} {B:Nat} {w a b:World} (h:Below B w a) (k:Ext S a b) (hs:∀ i,i<B→i<a.heap.size→¬ S i) (hB:B≤a.heap.size):Below B w b :=
 ⟨k.os.trans h.os,k.tape.trans h.tape,k.output.trans h.output,Nat.le_trans h.size k.size,fun i hi=>(k.block i (by omega) (hs i hi (by omega))).trans (h.block i hi)⟩
theorem Zj {w:World} {b o:Nat} {v:Value} (h:w.cell? ⟨b,o,none⟩=some v):b<w.heap.size:=by
 simp only[World.cell?] at h
 exact Classical.byContradiction fun hn=>by rw[Array.getElem?_eq_none (by omega)] at h;cases h
theorem Z1 {w:World} {b o:Nat} {v:Value} (h:w.cell? ⟨b,o,none⟩=some v) (x:Obj):(w.alloc x).cell? ⟨b,o,none⟩=some v :=
 (World.cell?_alloc_past x b o (Zj h)).trans h
theorem Z0 {W w1:World} (hb:Below W.heap.size W w1) {b o:Nat} {v:Value} (h:W.cell? ⟨b,o,none⟩=some v):w1.cell? ⟨b,o,none⟩=some v :=
 (hb.cell (p:=⟨b,o,none⟩) (Zj h)).trans h
theorem Ext.keep {S:Nat→Prop} {W w1:World} (hb:Ext S W w1) {b o:Nat} {v:Value} (h:W.cell? ⟨b,o,none⟩=some v) (hn:¬ S b):w1.cell? ⟨b,o,none⟩=some v :=
 (hb.cell (p:=⟨b,o,none⟩) (Zj h) hn).trans h
section maps
variable {K V:Type} [DecidableEq K]
def Z5:List (K × V)→K→Option V
 | [],_=>none
 | (k',v) :: r,k=>if k'=k then some v else Z5 r k
def Zx:List (K × V)→K→V→List (K × V)
 | [],k,v=>[(k,v)]
 | (k',v') :: r,k,v=>if k'=k then (k',v) :: r else (k',v') :: Zx r k v
def Zp:List (K × V)→K→Option Nat
 | [],_=>none
 | (k',_) :: r,k=>if k'=k then some 0 else (Zp r k).map (·+1)
theorem UK {l:List (K × V)} {k:K} (h:Zp l k=none):Z5 l k=none:=by
 induction l with
 | nil=>rfl
 | cons p r ih =>
  obtain ⟨k',v⟩:=p
  simp only[Zp] at h
  split at h
  ·cases h
  ·rename_i hne
   simp only[Z5,hne,if_false]
   exact ih (by simpa using h)
theorem V1 {l:List (K × V)} {k:K} {i:Nat} (h:Zp l k=some i):∃ v,l[i]?=some (k,v)∧Z5 l k=some v:=by
 induction l generalizing i with
 | nil=>cases h
 | cons p r ih =>
  obtain ⟨k',v⟩:=p
  simp only[Zp] at h
  split at h
  ·rename_i he
   cases h
   exact ⟨v,by simp[he],by simp[Z5,he]⟩
  ·rename_i hne
   cases hi:Zp r k with
   | none=>rw[hi] at h;cases h
   | some j =>
    rw[hi] at h
    cases h
    obtain ⟨u,h1,h2⟩:=ih hi
    exact ⟨u,by simpa using h1,by simpa [Z5,hne] using h2⟩
theorem SD {l:List (K × V)} {k:K} {v:V} (h:Zp l k=none):Zx l k v=l++[(k,v)]:=by
 induction l with
 | nil=>rfl
 | cons p r ih =>
  obtain ⟨k',v'⟩:=p
  simp only[Zp] at h
  split at h
  ·cases h
  ·rename_i hne
   simp only[Zx,hne,if_false,List.cons_append]
   rw[ih (by simpa using h)]
theorem Sg {l:List (K × V)} {k:K} {v:V} {i:Nat} (h:Zp l k=some i):Zx l k v=l.set i (k,v):=by
 induction l generalizing i with
 | nil=>cases h
 | cons p r ih =>
  obtain ⟨k',v'⟩:=p
  simp only[Zp] at h
  split at h
  ·rename_i he
   cases h
   simp[Zx,he]
  ·rename_i hne
   cases hi:Zp r k with
   | none=>rw[hi] at h;cases h
   | some j =>
    rw[hi] at h
    cases h
    simp[Zx,hne,ih hi]
theorem ZU (l:List (K × V)) (k:K) (v:V):Z5 (Zx l k v) k=some v:=by
 induction l with
 | nil=>simp[Zx,Z5]
 | cons p r ih =>
  obtain ⟨k',v'⟩:=p
  by_cases h:k'=k <;> simp[Zx,Z5,h,ih]
theorem ZE (l:List (K × V)) {k j:K} (v:V) (h:k≠j):Z5 (Zx l k v) j=Z5 l j:=by
 induction l with
 | nil=>simp[Zx,Z5,h]
 | cons p r ih =>
  obtain ⟨k',v'⟩:=p
  by_cases h1:k'=k
  ·subst h1;simp[Zx,Z5,h]
  ·simp only[Zx,if_neg h1,Z5,ih]
theorem Z1A (l:List (K × V)) (k:K) (v:V):∀ x,x∈(Zx l k v).map (·.1)↔x=k∨x∈l.map (·.1):=by
 intro x
 induction l with
 | nil=>simp[Zx]
 | cons p r ih =>
  obtain ⟨k',v'⟩:=p
  by_cases h1:k'=k
  ·subst h1;simp[Zx]
  ·simp only[Zx,h1,if_false,List.map_cons,List.mem_cons,ih]
   constructor
   ·rintro (h|h|h)
    ·exact .inr (.inl h)
    ·exact .inl h
    ·exact .inr (.inr h)
   ·rintro (h|h|h)
    ·exact .inr (.inl h)
    ·exact .inl h
    ·exact .inr (.inr h)
theorem TF (l:List (K × V)) (k:K) (v:V) (h:(l.map (·.1)).Nodup):((Zx l k v).map (·.1)).Nodup:=by
 induction l with
 | nil=>simp[Zx]
 | cons p r ih =>
  obtain ⟨k',v'⟩:=p
  by_cases h1:k'=k
  ·subst h1;simpa [Zx] using h
  ·simp only[Zx,if_neg h1,List.map_cons,List.nodup_cons] at h ⊢
   refine ⟨fun hm=>?_,ih h.2⟩
   rcases (Z1A r k v k').1 hm with e|e
   ·exact absurd e h1
   ·exact h.1 e
theorem Tl {l:List (K × V)} {k:K} {v:V} (h:Z5 l k=some v):(k,v)∈l:=by
 induction l with
 | nil=>cases h
 | cons p r ih =>
  obtain ⟨k',v'⟩:=p
  by_cases h1:k'=k
  ·simp only[Z5,h1,if_true] at h;cases h;simp[h1]
  ·simp only[Z5,h1,if_false] at h;exact List.mem_cons_of_mem _ (ih h)
theorem VQ {l:List (K × V)} {k:K} {v:V} (hn:(l.map (·.1)).Nodup) (h:(k,v)∈l):Z5 l k=some v:=by
 induction l with
 | nil=>cases h
 | cons p r ih =>
  obtain ⟨k',v'⟩:=p
  simp only[List.map_cons,List.nodup_cons] at hn
  rcases List.mem_cons.1 h with e|h
  ·cases e;simp[Z5]
  ·have:k'≠k:=fun e=>hn.1 (by subst e;exact List.mem_map.2 ⟨_,h,rfl⟩)
   simp only[Z5,this,if_false];exact ih hn.2 h
theorem TY (l:List (K × V)) (k:K) (v:V):(Zx l k v).length≤l.length+1:=by
 induction l with
 | nil=>simp[Zx]
 | cons p r ih =>
  obtain ⟨k',v'⟩:=p
  by_cases h1:k'=k
  ·simp[Zx,h1]
  ·simp[Zx,h1];omega
structure WB (P:Program) (kt:TypeId) (ek:K→Value):Prop where
 check:∀ (em:Bool) (k:K) (w:World),(Instr.checkKey em 10000 kt (ek k)).run P w=.ok () w
 find:∀ (k:K) (es:List MapEntry) (l:List (K × V)) (w:World),es.map (·.key)=l.map (fun p=>ek p.1) →
  (Instr.findKey kt (ek k) es).run P w=.ok ((Zp l k).map fun i=>(i,((es[i]?).map (·.val)).getD undef)) w
 stays:∀ (k:K) (w:World),(Instr.keyThatStays (ek k) (ek k)).run P w=.ok (ek k) w
def Z6 (ek:K→Value) (ev:V→Value) (w:World) (b:Nat) (l:List (K × V)):Prop :=
 (l.map (·.1)).Nodup∧∃ es clock,w.heap[b]?=some (.map es clock)∧es.toList.map (·.key)=l.map (fun p=>ek p.1)∧es.toList.map (·.val)=l.map (fun p=>ev p.2) ∧
  es.toList.Pairwise (fun x y=>x.born<y.born)∧∀ e∈es.toList,e.born<clock
variable {ek:K→Value} {ev:V→Value} {w:World} {b:Nat} {l:List (K × V)}
theorem Z6.of_block {w':World} (h:Z6 ek ev w b l) (hb:w'.heap[b]?=w.heap[b]?):Z6 ek ev w' b l:=by
 obtain ⟨hn,es,clock,h1,h2⟩:=h
 exact ⟨hn,es,clock,hb.trans h1,h2⟩
theorem Z6.lt (h:Z6 ek ev w b l):b<w.heap.size:=by
 obtain ⟨hn,es,clock,h1,h2⟩:=h
 exact (Array.getElem?_eq_some_iff.1 h1).1
theorem Z6.nodup (h:Z6 ek ev w b l):(l.map (·.1)).Nodup:=h.1
theorem Z6.drew (h:Z6 ek ev w b l):Z6 ek ev w.drew b l:=h
theorem Z6.alloc (h:Z6 ek ev w b l) (o:Obj):Z6 ek ev (w.alloc o) b l:=h.of_block (Below.heap_alloc _ _ _ h.lt)
theorem Z6.setCell (h:Z6 ek ev w b l) (p:Addr) (v:Value):Z6 ek ev (w.setCell p v) b l:=by
 obtain ⟨hn,es,clock,h1,h2⟩:=h
 refine ⟨hn,es,clock,?_,h2⟩
 simp only[World.setCell,Array.getElem?_modify]
 split
 ·rename_i e
  subst e
  rw[h1]
  rfl
 ·exact h1
theorem Z6.ext {S:Nat→Prop} {w':World} (h:Z6 ek ev w b l) (hx:Ext S w w') (hn:¬ S b):Z6 ek ev w' b l:=h.of_block (hx.block b h.lt hn)
theorem Z6.below {w':World} (h:Z6 ek ev w b l) (hx:Below w.heap.size w w'):Z6 ek ev w' b l:=h.of_block (hx.block b h.lt)
theorem Z6.made (w:World):Z6 ek ev (w.alloc (.map #[] 0)) w.heap.size ([]:List (K × V)) :=
 ⟨List.nodup_nil,#[],0,by show (w.heap.push _)[w.heap.size]?=_;simp,rfl,rfl,List.Pairwise.nil,by simp⟩
theorem ZA {P:Program} {es:Array MapEntry} {clock:Nat} (h:w.heap[b]?=some (.map es clock)):(getObj b).run P w=.ok (.map es clock) w:=MapKept.run_getObj_map h
theorem Z6.lookup {P:Program} {mt kt et:TypeId} (h:Z6 ek ev w b l) (hk:WB (V:=V) P kt ek) (hm:P.underlying mt=some (.map kt et)) {z:Value} (hz:∀ w,(zeroValue et).run P w=.ok z w) (k:K) :
  (Instr.lookup mt (.map (some b)) (ek k) false).run P w=.ok (((Z5 l k).map ev).getD z) w:=by
 obtain ⟨hn,es,clock,h1,h2,h3,h4⟩:=h
 have hf:=hk.find k es.toList l w h2
 cases hi:Zp l k with
 | none =>
  have h0:=UK hi
  rw[hi] at hf
  simp[Instr.lookup,run_underlying hm,ZA h1,hk.check,hf,hz,h0,Result.andThen]
 | some i =>
  obtain ⟨v,e1,e2⟩:=V1 hi
  have hv:es.toList[i]?.map (·.val)=some (ev v):=by
   have:=congrArg (fun l:List Value=>l[i]?) h3
   simpa [e1] using this
  rw[hi] at hf
  simp only[Array.getElem?_toList] at hf hv
  simp[Instr.lookup,run_underlying hm,ZA h1,hk.check,hf,e2,Result.andThen]
  rw[show es[i]?.map (·.val)=some (ev v) from hv]
  rfl
theorem Z6.lookupOk {P:Program} {mt kt et:TypeId} (h:Z6 ek ev w b l) (hk:WB (V:=V) P kt ek) (hm:P.underlying mt=some (.map kt et)) {z:Value} (hz:∀ w,(zeroValue et).run P w=.ok z w) (k:K) :
  (Instr.lookup mt (.map (some b)) (ek k) true).run P w=.ok (.tuple #[((Z5 l k).map ev).getD z,.bool (Z5 l k).isSome]) w:=by
 obtain ⟨hn,es,clock,h1,h2,h3,h4⟩:=h
 have hf:=hk.find k es.toList l w h2
 cases hi:Zp l k with
 | none =>
  have h0:=UK hi
  rw[hi] at hf
  simp[Instr.lookup,run_underlying hm,ZA h1,hk.check,hf,hz,h0,Result.andThen]
 | some i =>
  obtain ⟨v,e1,e2⟩:=V1 hi
  have hv:es.toList[i]?.map (·.val)=some (ev v):=by
   have:=congrArg (fun l:List Value=>l[i]?) h3
   simpa [e1] using this
  rw[hi] at hf
  simp only[Array.getElem?_toList] at hf hv
  simp[Instr.lookup,run_underlying hm,ZA h1,hk.check,hf,e2,Result.andThen]
  rw[show es[i]?.map (·.val)=some (ev v) from hv]
  rfl
def Zn (w:World) (b:Nat) (i:Option Nat) (k v:Value):World :=
 match w.heap[b]? with
 | some (.map es clock)=>match i with
  | some i=>{ w with heap:=w.heap.setIfInBounds b (.map (es.modify i fun e=>{ e with key:=k,val:=v }) clock) }
  | none=>{ w with heap:=w.heap.setIfInBounds b (.map (es.push { key:=k,val:=v,born:=clock }) (clock+1)) }
 | _=>w
theorem Wb (w:World) (b:Nat) (i:Option Nat) (k v:Value):(Zn w b i k v).heap.size=w.heap.size:=by
 unfold Zn;split
 ·split <;> simp
 ·rfl
theorem XR (w:World) (b:Nat) (i:Option Nat) (k v:Value) (c:Nat) (h:c≠b):(Zn w b i k v).heap[c]?=w.heap[c]?:=by
 unfold Zn;split
 ·split <;> simp[Array.getElem?_setIfInBounds,h.symm]
 ·rfl
theorem ZP (w:World) (b:Nat) (i:Option Nat) (k v:Value) (a:Addr):(Zn w b i k v).cell? a=w.cell? a:=by
 by_cases h:a.block=b
 ·subst h
  unfold Zn
  split
  ·rename_i es clock hb
   split <;> (simp only[World.cell?,Array.getElem?_setIfInBounds,if_true,hb];split <;> simp_all)
  ·rfl
 ·exact World.cell?_of_block (w:=w) (XR w b i k v _ h)
theorem Xs (w:World) (b:Nat) (i:Option Nat) (k v:Value):Ext (·=b) w (Zn w b i k v):=by
 refine ⟨?_,?_,?_,Nat.le_of_eq (Wb w b i k v).symm,fun c _ h=>XR w b i k v c h⟩ <;> (unfold Zn;split <;> (try split) <;> rfl)
theorem Ext.mapPut {S:Nat→Prop} {a w:World} (h:Ext S a w) {b:Nat} (hb:S b∨a.heap.size≤b) (i:Option Nat) (k v:Value):Ext S a (Zn w b i k v) :=
 h.andThen (Xs w b i k v) (fun j hj e=>by rcases hb with hb|hb;exact e ▸ hb;exact absurd hj (by omega))
theorem Ext.then_below {S:Nat→Prop} {a w w':World} (h:Ext S a w) (k:Below w.heap.size w w'):Ext S a w':=h.andThen (Ext.of_below (S:=fun _=>False) k) (fun _ _ f=>f.elim)
theorem Z6.update {P:Program} {mt kt et:TypeId} (h:Z6 ek ev w b l) (hk:WB (V:=V) P kt ek) (hm:P.underlying mt=some (.map kt et)) (k:K) (v:Value) :
  (Instr.mapUpdate mt (.map (some b)) (ek k) v).run P w=.ok () (Zn w b (Zp l k) (ek k) v):=by
 obtain ⟨hn,es,clock,h1,h2,h3,h4⟩:=h
 have hf:=hk.find k es.toList l w h2
 cases hi:Zp l k with
 | none =>
  rw[hi] at hf
  simp[Instr.mapUpdate,run_underlying hm,ZA h1,hk.check,hf,Result.andThen,MapKept.run_setObj_map _ h1,Zn,h1]
 | some i =>
  obtain ⟨u,e1,e2⟩:=V1 hi
  have hv:es.toList[i]?.map (·.key)=some (ek k):=by
   have:=congrArg (fun l:List Value=>l[i]?) h2
   simpa [e1] using this
  rw[hi] at hf
  simp only[Array.getElem?_toList] at hf hv
  simp[Instr.mapUpdate,run_underlying hm,ZA h1,hk.check,hf,hv,hk.stays,Result.andThen,MapKept.run_setObj_map _ h1,Zn,h1]
theorem Z6.put (h:Z6 ek ev w b l) (k:K) (v:V):Z6 ek ev (Zn w b (Zp l k) (ek k) (ev v)) b (Zx l k v):=by
 refine ⟨TF l k v h.1,?_⟩
 have hlt:=h.lt
 obtain ⟨hn,es,clock,h1,h2,h3,h4,h5⟩:=h
 cases hi:Zp l k with
 | none =>
  refine ⟨es.push { key:=ek k,val:=ev v,born:=clock },clock+1,?_,?_,?_,?_,?_⟩
  ·simp only[Zn,h1];rw[Array.getElem?_setIfInBounds_self_of_lt hlt]
  ·simp[SD hi,h2]
  ·simp[SD hi,h3]
  ·rw[Array.toList_push,List.pairwise_append]
   refine ⟨h4,List.pairwise_singleton _ _,fun x hx y hy=>?_⟩
   rw[List.mem_singleton.1 hy]
   exact h5 x hx
  ·intro e he
   rw[Array.toList_push,List.mem_append] at he
   rcases he with he|he
   ·exact Nat.lt_succ_of_lt (h5 e he)
   ·rw[List.mem_singleton.1 he];exact Nat.lt_succ_self _
 | some i =>
  obtain ⟨u,e1,e2⟩:=V1 hi
  have hset:∀ e,es.toList[i]?=some e→(es.modify i fun e=>{ e with key:=ek k,val:=ev v }).toList=es.toList.set i { e with key:=ek k,val:=ev v }:=fun e he=>by
   rw[Array.toList_modify,ChangeMaps.modify_eq_set _ _ _ _ he]
  obtain ⟨e0,he0⟩:∃ e,es.toList[i]?=some e:=by
   have:=congrArg (fun l:List Value=>l[i]?) h2
   simp only[List.getElem?_map,e1] at this
   cases hx:es.toList[i]? with
   | none=>rw[hx] at this;cases this
   | some e=>exact ⟨e,rfl⟩
  refine ⟨es.modify i fun e=>{ e with key:=ek k,val:=ev v },clock,?_,?_,?_,?_,?_⟩
  ·simp only[Zn,h1];rw[Array.getElem?_setIfInBounds_self_of_lt hlt]
  ·rw[hset e0 he0,List.map_set,h2,Sg hi,List.map_set]
  ·rw[hset e0 he0,List.map_set,h3,Sg hi,List.map_set]
  ·rw[hset e0 he0]
   have:(es.toList.set i { e0 with key:=ek k,val:=ev v }).map (·.born)=es.toList.map (·.born):=by
    rw[List.map_set]
    refine List.ext_getElem? fun j=>?_
    rw[List.getElem?_set]
    split
    ·rename_i hij
     subst hij
     split
     ·simp[he0]
     ·rename_i hl
      simp only[List.length_map] at hl
      rw[List.getElem?_eq_none (by simpa using hl)]
    ·rfl
   have hp:((es.toList.set i { e0 with key:=ek k,val:=ev v }).map (·.born)).Pairwise (·<·):=by rw[this];exact List.pairwise_map.2 h4
   exact List.pairwise_map.1 hp
  ·intro e he
   rw[hset e0 he0] at he
   rcases List.mem_or_eq_of_mem_set he with he|he
   ·exact h5 e he
   ·rw[he];exact h5 e0 (List.mem_of_getElem? he0)
theorem Z6.put_other (h:Z6 ek ev w b l) {c:Nat} (i:Option Nat) (k v:Value) (hne:b≠c):Z6 ek ev (Zn w c i k v) b l:=h.of_block (XR w c i k v b hne)
end maps
end Go.Proofs.YtlgipkemoldckaaGreatDoor
namespace Go.Proofs.YtlgipkemoldckaaGreatDoor
open Go.ChangeShapes Go.WideShapes Go.RowKit Go.Deep
theorem Tryz.own:ownKnob Tryz.prog.godebug=none:=by kernel_rfl
theorem T5 {α:Type} {p:Nat→α→Prop}:∀ (n:Nat),(∀ i,i<n→∃ x,p i x)→∃ l:List α,l.length=n∧∀ i x,l[i]?=some x→p i x
 | 0,_=>⟨[],rfl,fun i x h=>by simp at h⟩
 | n+1,h=>by
  obtain ⟨l,hl,hp⟩:=T5 n (fun i hi=>h i (by omega))
  obtain ⟨x,hx⟩:=h n (by omega)
  refine ⟨l++[x],by simp[hl],fun i y hy=>?_⟩
  by_cases hi:i<n
  ·rw[List.getElem?_append_left (by omega)] at hy
   exact hp i y hy
  ·rw[List.getElem?_append_right (by omega)] at hy
   have:i - l.length=0:=by
    have:=(List.getElem?_eq_some_iff.1 hy).1
    simp at this;omega
   rw[this] at hy
   cases hy
   have:i=n:=by omega
   subst this
   exact hx
def Z4 {α:Type} (enc:α→List Value) (k:Nat) (w:World) (v:Value) (l:List α):Prop :=
 ∃ a cap,v=.slice a l.length cap∧l.length≤cap∧cap≤maxLen∧(l≠[]→∃ b off,a=some ⟨b,off,none⟩∧∀ i x,l[i]?=some x→∀ j u,(enc x)[j]?=some u→w.cell? ⟨b,off+i*k+j,none⟩=some u)
theorem Z4.of {α:Type} {enc:α→List Value} {k:Nat} {w w':World} {v:Value} {l:List α} (h:Z4 enc k w v l) (hb:∀ b o u,w.cell? ⟨b,o,none⟩=some u→w'.cell? ⟨b,o,none⟩=some u):Z4 enc k w' v l:=by
 obtain ⟨a,cap,h1,h2,h3,h4⟩:=h
 refine ⟨a,cap,h1,h2,h3,fun hl=>?_⟩
 obtain ⟨b,off,h5,h6⟩:=h4 hl
 exact ⟨b,off,h5,fun i x hi j u hj=>hb _ _ _ (h6 i x hi j u hj)⟩
theorem Z4.below {α:Type} {enc:α→List Value} {k:Nat} {w w':World} {v:Value} {l:List α} (h:Z4 enc k w v l) (hb:Below w.heap.size w w'):Z4 enc k w' v l:=h.of (fun _ _ _ hu=>Z0 hb hu)
section
variable {H:Type} {enc:TypeId × Value→H} {P:Program} {w:World} {base:Nat} {spare:Nat→Bool} {held:Bool}
end
section
variable {H:Type} {enc:TypeId × Value→H} {w:World} {base:Nat} {spare:Nat→Bool} {held:Bool}
theorem Z3B {l:List Value} (h:l.length=2):∃ a b,l=[a,b]:=by
 match l,h with
 | [a,b],_=>exact ⟨a,b,rfl⟩
theorem YJ {fuel:Nat} {cs:List Value} {x:DataW H × List MemPlace} (h:DataW.trod enc Tryz.prog w base spare held fuel 23 cs=some x):∃ s:St,cs=[.int .i64 s.n,.int .i64 s.r]:=by
 obtain ⟨xs,n,_,_,hlen,hxl,hf⟩:=DataW.trod_struct Tryz.underlying23 h
 have hc:Tryz.prog.cellsOf 23=2:=by kernel_rfl
 have hc3:Tryz.prog.cellsOf 3=1:=by kernel_rfl
 rw[hc] at hlen
 obtain ⟨a,b,rfl⟩:=Z3B hlen
 have f0:DataW.trod enc Tryz.prog w base spare held n 3 [a]=xs[0]?:=by simpa [hc3] using hf 0 _ rfl
 have f1:DataW.trod enc Tryz.prog w base spare held n 3 [b]=xs[1]?:=by simpa [hc3] using hf 1 _ rfl
 have e0:xs[0]?=some (xs[0]'(by simp at hxl;omega)):=List.getElem?_eq_getElem _
 have e1:xs[1]?=some (xs[1]'(by simp at hxl;omega)):=List.getElem?_eq_getElem _
 obtain ⟨p,hp,_⟩:=DataW.trod_int Tryz.underlying3 (f0.trans e0)
 obtain ⟨q,hq,_⟩:=DataW.trod_int Tryz.underlying3 (f1.trans e1)
 simp at hp hq
 exact ⟨⟨p,q⟩,by rw[hp,hq]⟩
end
end Go.Proofs.YtlgipkemoldckaaGreatDoor
namespace Go.Proofs.YtlgipkemoldckaaGreatDoor
open Go.RowKit
def Own {α:Type} (ea:α→List Value) (k:Nat) (e:TypeId) (base:Nat) (w:World) (v:Value) (l:List α):Prop:=w.ownsRow base e k v l.length (l.flatMap ea)
section
variable {α:Type} {ea:α→List Value} {k:Nat} {e:TypeId} {base:Nat} {w:World} {v:Value} {l:List α}
theorem ZY (hk:∀ x,(ea x).length=k):∀ l:List α,(l.flatMap ea).length=l.length*k
 | []=>by simp
 | x :: l=>by rw[List.flatMap_cons,List.length_append,hk,ZY hk l,List.length_cons,Nat.add_mul,Nat.one_mul,Nat.add_comm]
theorem getElem?_flatMap_k (hk:∀ x,(ea x).length=k):∀ (l:List α) (i:Nat) (x:α),l[i]?=some x→∀ j u,(ea x)[j]?=some u→(l.flatMap ea)[i*k+j]?=some u
 | [],i,x,h,_,_,_=>by simp at h
 | y :: l,0,x,h,j,u,hj=>by
  simp at h
  subst h
  have:=(List.getElem?_eq_some_iff.1 hj).1
  rw[List.flatMap_cons,Nat.zero_mul,Nat.zero_add,List.getElem?_append_left this]
  exact hj
 | y :: l,i+1,x,h,j,u,hj=>by
  have ih:=getElem?_flatMap_k hk l i x (by simpa using h) j u hj
  rw[List.flatMap_cons,List.getElem?_append_right (by rw[hk,Nat.add_mul];omega),hk]
  have:(i+1)*k+j - k=i*k+j:=by rw[Nat.add_mul];omega
  rw[this]
  exact ih
theorem Own.nil:Own ea k e base w (.slice none 0 0) ([]:List α):=⟨by simp,.inl ⟨rfl,rfl⟩⟩
theorem Own.alloc (h:Own ea k e base w v l) (o:Obj):Own ea k e base (w.alloc o) v l:=World.ownsRow.alloc h o
theorem Own.drew (h:Own ea k e base w v l):Own ea k e base w.drew v l:=h
theorem Own.blk (h:Own ea k e base w v l):∀ b,v.ownBlock=some b→base≤b∧b<w.heap.size:=World.ownsRow.lt h
theorem Own.ext {S:Nat→Prop} {w':World} (h:Own ea k e base w v l) (hx:Ext S w w') (hn:∀ b,v.ownBlock=some b→¬ S b):Own ea k e base w' v l:=by
 obtain ⟨h1,h2⟩:=h
 refine ⟨h1,h2.imp id ?_⟩
 rintro ⟨g,cap,cur,hv,hb,hg,h3⟩
 have hlt:=(Array.getElem?_eq_some_iff.1 hg).1
 exact ⟨g,cap,cur,hv,hb,(hx.block g hlt (hn g (by rw[hv];rfl))).trans hg,h3⟩
theorem Own.mono {b':Nat} (h:Own ea k e base w v l) (hb:b'≤base):Own ea k e b' w v l:=by
 obtain ⟨h1,h2⟩:=h
 refine ⟨h1,h2.imp id ?_⟩
 rintro ⟨g,cap,cur,hv,hb',h3⟩
 exact ⟨g,cap,cur,hv,by omega,h3⟩
theorem Own.slice (h:Own ea k e base w v l) (hk:∀ x,(ea x).length=k):Z4 ea k w v l:=by
 have h0:=h
 obtain ⟨h1,h2⟩:=h
 rcases h2 with ⟨rfl,hn⟩|⟨g,cap,cur,rfl,hb,hg,hnc,hcm,hcs,htake⟩
 ·have:l=[]:=List.eq_nil_of_length_eq_zero hn
  subst this
  exact ⟨none,0,rfl,Nat.le_refl _,Nat.zero_le _,fun hne=>absurd rfl hne⟩
 ·refine ⟨some ⟨g,0,none⟩,cap,rfl,hnc,hcm,fun _=>⟨g,0,rfl,fun i x hi j u hj=>?_⟩⟩
  have hil:=(List.getElem?_eq_some_iff.1 hi).1
  have hjl:=(List.getElem?_eq_some_iff.1 hj).1
  rw[hk] at hjl
  have hlt:i*k+j<l.length*k:=by
   have:=Nat.mul_le_mul_right k (show i+1≤l.length from hil)
   rw[Nat.add_mul,Nat.one_mul] at this
   omega
  have:=World.ownsRow.cellAt h0 (i*k+j) hlt
  rw[getElem?_flatMap_k hk l i x hi j u hj] at this
  rw[Nat.zero_add]
  exact this
theorem Own.tag (h:Own ea k e base w v l) {b:Nat} (hb:v.ownBlock=some b):∃ cur,w.heap[b]?=some (.cells cur e (0,0)):=by
 obtain ⟨_,h3⟩:=h
 rcases h3 with ⟨h3,_⟩|⟨g,cap,cur,h3,_,hg,_⟩
 ·rw[h3] at hb;cases hb
 ·rw[h3] at hb;cases hb;exact ⟨cur,hg⟩
theorem Own.eq_slice (h:Own ea k e base w v l):(v=.slice none 0 0∧l=[])∨∃ g cap,v=.slice (some ⟨g,0,none⟩) l.length cap∧base≤g∧g<w.heap.size:=by
 obtain ⟨h1,h2⟩:=h
 rcases h2 with ⟨rfl,hn⟩|⟨g,cap,cur,rfl,hb,hg,h3⟩
 ·exact .inl ⟨rfl,List.eq_nil_of_length_eq_zero hn⟩
 ·exact .inr ⟨g,cap,rfl,hb,(Array.getElem?_eq_some_iff.1 hg).1⟩
theorem Ext.of_grown {w w':World} {row:Option Nat} (h:w.grownBy w' row):Ext (fun b=>row=some b) w w' :=
 ⟨h.os,h.tape,h.output,h.size,fun b hb hn=>h.block b hb (fun e=>hn e.symm)⟩
theorem Zo {P:Program} {ops:Array Oper} {rest:List Oper} {o:Oper} {a:Act} {Q:Exit→Act→World→Prop} (hgd:o.guard=none) (s x:Operand) (t:TypeId)
  (ho:o.op=.call { callee:=.builtin .append,args:=#[s,x],argTypes:=#[t,t] })
  (i:TypeInfo) (z:Value) (bytes:Nat) (ht:P.underlying t=some (.slice e)) (hi:P.info? e=some i) (hz:i.zero=some z)
  (hsize:i.size=k) (hby:i.bytes=bytes) (hzs:z.cells.size=k) (hk0:0<k) (hk:∀ x,(ea x).length=k) (h1:∀ x,∀ u∈ea x,u.oneCell'=true)
  (hs:a.eval s=v) (hown:Own ea k e base w v l) (y:α) (nb c:Nat) (hx:a.eval x=.slice (some ⟨nb,0,none⟩) 1 c) (hnews:∀ j u,(ea y)[j]?=some u→w.cell? ⟨nb,j,none⟩=some u)
  (h63:l.length+1≤maxLen) (hbytes:(l.length+1)*bytes≤140737488355328) (hbase:base≤w.heap.size)
  (h:∀ v' w',Own ea k e base w' v' (l++[y])→Ext (fun b=>v.ownBlock=some b) w w'→wpList P ops Q rest (a.put o.dst v') w'):wpList P ops Q (o :: rest) a w:=by
 refine wpList_append_own w hgd s x t ho base e i z k bytes ht hi hz hsize hby hzs hk0 v l.length (l.flatMap ea) hs hown ⟨nb,0,none⟩ 1 c (ea y) hx (by rw[hk,Nat.one_mul]) (fun j u hj=>?_) (h1 y) h63 hbytes hbase (fun v' w' h2 h3 _=>h v' w' ?_ (Ext.of_grown h3))
 ·have:=hnews j u hj
  rw[show (Addr.add ⟨nb,0,none⟩ j)=⟨nb,j,none⟩ from by unfold Addr.add;split <;> simp_all]
  exact this
 ·unfold Own
  rw[List.length_append,List.flatMap_append]
  simpa using h2
theorem V2 {P:Program} {ops:Array Oper} {o:Oper} {a:Act} {K:Act→World→Prop} {Q:Exit→Act→World→Prop} {E:Prop} (hgd:o.guard=none) (s x:Operand) (t:TypeId)
  (ho:o.op=.call { callee:=.builtin .append,args:=#[s,x],argTypes:=#[t,t] })
  (i:TypeInfo) (z:Value) (bytes:Nat) (ht:P.underlying t=some (.slice e)) (hi:P.info? e=some i) (hz:i.zero=some z)
  (hsize:i.size=k) (hby:i.bytes=bytes) (hzs:z.cells.size=k) (hk0:0<k) (hk:∀ x,(ea x).length=k) (h1:∀ x,∀ u∈ea x,u.oneCell'=true)
  (hs:a.eval s=v) (hown:Own ea k e base w v l) (y:α) (nb c:Nat) (hx:a.eval x=.slice (some ⟨nb,0,none⟩) 1 c) (hnews:∀ j u,(ea y)[j]?=some u→w.cell? ⟨nb,j,none⟩=some u)
  (h63:l.length+1≤maxLen) (hbytes:(l.length+1)*bytes≤140737488355328) (hbase:base≤w.heap.size)
  (h:∀ v' w',Own ea k e base w' v' (l++[y])→Ext (fun b=>v.ownBlock=some b) w w'→K (a.put o.dst v') w'):if Region.wanted o (yielded ops a.tmps)=true then Oper.wp P o a w K Q else E:=by
 have hw:Region.wanted o (yielded ops a.tmps)=true:=by simp[Region.wanted,hgd]
 rw[if_pos hw]
 refine wp_append_own w s x t ho base e i z k bytes ht hi hz hsize hby hzs hk0 v l.length (l.flatMap ea) hs hown ⟨nb,0,none⟩ 1 c (ea y) hx (by rw[hk,Nat.one_mul]) (fun j u hj=>?_) (h1 y) h63 hbytes hbase (fun v' w' h2 h3 _=>h v' w' ?_ (Ext.of_grown h3))
 ·have:=hnews j u hj
  rw[show (Addr.add ⟨nb,0,none⟩ j)=⟨nb,j,none⟩ from by unfold Addr.add;split <;> simp_all]
  exact this
 ·unfold Own
  rw[List.length_append,List.flatMap_append]
  simpa using h2
end
theorem VU {K V:Type} [DecidableEq K] {P:Program} {kt:TypeId} {ek:K→Value} (heq:∀ a b (w:World),(Op.equal kt (ek a) (ek b)).run P w=.ok (decide (a=b)) w) (k:K) (w:World) :
  ∀ (es:List MapEntry) (l:List (K × V)) (i:Nat),es.map (·.key)=l.map (fun p=>ek p.1) →
  (Instr.findAsking kt (ek k) es i).run P w=.ok ((Zp l k).map fun j=>(i+j,((es[j]?).map (·.val)).getD undef)) w
 | [],[],i,_=>by simp[Instr.findAsking,Zp]
 | [],_ :: _,_,h=>by simp at h
 | _ :: _,[],_,h=>by simp at h
 | e :: es,p :: l,i,h=>by
  obtain ⟨k',v⟩:=p
  simp only[List.map_cons,List.cons.injEq] at h
  obtain ⟨h1,h2⟩:=h
  have ih:=VU heq k w es l (i+1) h2
  simp only[Instr.findAsking,Sem.run_bind,h1,heq k k' w,Result.andThen_ok,Sem.run_ite]
  by_cases hk:k'=k
  ·subst hk
   simp[Zp]
  ·have hk':¬ k=k':=fun e=>hk e.symm
   simp only[hk',decide_false,Bool.false_eq_true,if_false,ih,Zp,hk]
   cases Zp l k with
   | none=>rfl
   | some j=>simp[Nat.add_assoc,Nat.add_comm 1 j]
theorem WB.of_equal {K V:Type} [DecidableEq K] {P:Program} {kt:TypeId} {ek:K→Value} {fs:Array Field} (hu:P.underlying kt=some (.struct fs))
  (hagg:∀ a,∃ cs,ek a=.agg cs)
  (check:∀ (em:Bool) (k:K) (w:World),(Instr.checkKey em 10000 kt (ek k)).run P w=.ok () w)
  (heq:∀ a b (w:World),(Op.equal kt (ek a) (ek b)).run P w=.ok (decide (a=b)) w)
  (hsame:∀ a,Instr.sameBits 10000 (ek a) (ek a)=true):WB (V:=V) P kt ek:=by
 refine ⟨check,fun k es l w h=>?_,fun k w=>by simp[Instr.keyThatStays,hsame]⟩
 cases es with
 | nil =>
  cases l with
  | nil=>simp[Instr.findKey,run_underlying hu,Instr.findNow,Zp]
  | cons p l=>simp at h
 | cons e es =>
  have hn:Instr.findNow (.struct fs) (ek k) (e :: es) 0=none:=by
   obtain ⟨cs,hc⟩:=hagg k
   simp[Instr.findNow,hc,Instr.sameNow]
  have:=VU (V:=V) heq k w (e :: es) l 0 h
  simp only[Instr.findKey,Sem.run_bind,run_underlying hu,Result.andThen_ok,hn]
  rw[this]
  simp
theorem ZG (a b:Int) (w:World) :
  Calls Tryz.prog 32 #[.agg #[.int .i64 a,.int .i64 b]] w
   fun e w'=>e=.returned (.bool (Z7 ⟨a,b⟩))∧Below w.heap.size w w':=by
 by_cases h1:1≤a
 ·by_cases h2:a≤1048576
  ·by_cases h3:0≤b
   ·by_cases h4:b<8
    ·have hr:Z7 ⟨a,b⟩=true:=by simp only[Z7,decide_eq_true_eq];exact ⟨h1,h2,h3,h4⟩
     rw[hr];clear hr
     go_enter Tryz.func32,Tryz.ntmps32
     go_wp2
     go_ret
     exact ⟨rfl,(Below.refl _ _).alloc (Nat.le_refl _) _⟩
    ·have hr:Z7 ⟨a,b⟩=false:=by simp only[Z7,decide_eq_false_iff_not];omega
     rw[hr];clear hr
     go_enter Tryz.func32,Tryz.ntmps32
     go_wp2
     go_ret
     exact ⟨rfl,(Below.refl _ _).alloc (Nat.le_refl _) _⟩
   ·have hr:Z7 ⟨a,b⟩=false:=by simp only[Z7,decide_eq_false_iff_not];omega
    rw[hr];clear hr
    go_enter Tryz.func32,Tryz.ntmps32
    go_wp2
    go_ret
    exact ⟨rfl,(Below.refl _ _).alloc (Nat.le_refl _) _⟩
  ·have hr:Z7 ⟨a,b⟩=false:=by simp only[Z7,decide_eq_false_iff_not];omega
   rw[hr];clear hr
   go_enter Tryz.func32,Tryz.ntmps32
   go_wp2
   go_ret
   exact ⟨rfl,(Below.refl _ _).alloc (Nat.le_refl _) _⟩
 ·have hr:Z7 ⟨a,b⟩=false:=by simp only[Z7,decide_eq_false_iff_not];omega
  rw[hr];clear hr
  go_enter Tryz.func32,Tryz.ntmps32
  go_wp2
  go_ret
  exact ⟨rfl,(Below.refl _ _).alloc (Nat.le_refl _) _⟩
theorem Tp (a b c d:Int):Yc ⟨a,b⟩ ⟨c,d⟩=if a<c then -1 else if c<a then 1 else if b<d then -1 else if d<b then 1 else 0:=by
 unfold Yc WO
 by_cases h1:a<c
 ·simp[h1]
 ·by_cases h2:c<a
  ·simp[h1,h2]
  ·simp[h1,h2]
theorem X1 (a b c d:Int) (w:World) :
  Calls Tryz.prog 23 #[.agg #[.int .i64 a,.int .i64 b],.agg #[.int .i64 c,.int .i64 d]] w
   fun e w'=>e=.returned (.int .i64 (Yc ⟨a,b⟩ ⟨c,d⟩))∧Below w.heap.size w w':=by
 rw[Tp]
 by_cases h1:a<c
 ·rw[if_pos h1]
  go_enter Tryz.func23,Tryz.ntmps23
  go_wp2
  go_ret
  exact ⟨rfl,((Below.refl _ _).alloc (Nat.le_refl _) _).alloc (by simp) _⟩
 ·by_cases h2:c<a
  ·rw[if_neg h1,if_pos h2]
   go_enter Tryz.func23,Tryz.ntmps23
   go_wp2
   go_ret
   exact ⟨rfl,((Below.refl _ _).alloc (Nat.le_refl _) _).alloc (by simp) _⟩
  ·by_cases h3:b<d
   ·rw[if_neg h1,if_neg h2,if_pos h3]
    go_enter Tryz.func23,Tryz.ntmps23
    go_wp2
    go_ret
    exact ⟨rfl,((Below.refl _ _).alloc (Nat.le_refl _) _).alloc (by simp) _⟩
   ·by_cases h4:d<b
    ·rw[if_neg h1,if_neg h2,if_neg h3,if_pos h4]
     go_enter Tryz.func23,Tryz.ntmps23
     go_wp2
     go_ret
     exact ⟨rfl,((Below.refl _ _).alloc (Nat.le_refl _) _).alloc (by simp) _⟩
    ·rw[if_neg h1,if_neg h2,if_neg h3,if_neg h4]
     go_enter Tryz.func23,Tryz.ntmps23
     go_wp2
     go_ret
     exact ⟨rfl,((Below.refl _ _).alloc (Nat.le_refl _) _).alloc (by simp) _⟩
theorem Wm (a b:St):Yc a b<0↔a.n<b.n∨(a.n=b.n∧a.r<b.r):=by
 unfold Yc WO
 by_cases h1:a.n<b.n
 ·simp[h1]
 ·by_cases h2:b.n<a.n
  ·simp[h1,h2];omega
  ·have:a.n=b.n:=by omega
   by_cases h3:a.r<b.r
   ·simp[h1,h2,h3,this]
   ·by_cases h4:b.r<a.r <;> simp[h1,h2,h3,h4,this]
def ZI (a b:St):Prop:=a.n<b.n∨(a.n=b.n∧a.r<b.r)
theorem Zl (a:St):¬ ZI a a:=by unfold ZI;omega
theorem ZC {a b c:St} (h:ZI a b) (k:ZI b c):ZI a c:=by unfold ZI at *;omega
theorem Y5 (a b:St):ZI a b∨a=b∨ZI b a:=by
 unfold ZI
 by_cases h:a=b
 ·exact .inr (.inl h)
 ·have:¬ (a.n=b.n∧a.r=b.r):=fun e=>h (by cases a;cases b;simp_all)
  omega
theorem UF {a:St} (h:Z7 a=true):ZI ⟨0,0⟩ a:=by
 simp only[Z7,decide_eq_true_eq] at h
 exact .inl (by show (0:Int)<a.n;omega)
theorem UU (a b:St):0<Yc a b↔ZI b a:=by
 rw[show a=⟨a.n,a.r⟩ from rfl,show b=⟨b.n,b.r⟩ from rfl,Tp]
 unfold ZI
 simp only
 split
 ·constructor <;> intro h <;> omega
 ·split
  ·constructor <;> intro h <;> omega
  ·split
   ·constructor <;> intro h <;> omega
   ·split
    ·constructor <;> intro h <;> omega
    ·constructor <;> intro h <;> omega
structure Ch where
 block:St
 under:St
 key:ByteArray
 deriving DecidableEq
def Ch.cells (c:Ch):List Value:=[.int .i64 c.block.n,.int .i64 c.block.r,.int .i64 c.under.n,.int .i64 c.under.r,.string c.key]
structure Mv where
 at_:St
 child:Ch
 took:Bool
 was:Option Nat
def Z3E (l:List Mv):Prop:=l.Pairwise (fun a b=>ZI a.at_ b.at_)
section
variable {K V:Type} [DecidableEq K] {ek:K→Value} {ev:V→Value}
def ZK (ek:K→Value) (ev:V→Value) (w:World) (r b:Nat) (l left:List (K × V)) (cur:Option (K × V)):Prop :=
 (l.map (·.1)).Nodup∧∃ es clock seen,w.heap[b]?=some (.map es clock)∧w.heap[r]?=some (.mapIter (some b) clock seen clock) ∧
  es.toList.map (·.key)=l.map (fun p=>ek p.1)∧es.toList.map (·.val)=l.map (fun p=>ev p.2) ∧
  es.toList.Pairwise (fun x y=>x.born<y.born)∧(∀ e∈es.toList,e.born<clock) ∧
  ((es.toList.zip l).filter (fun x=>!seen.contains x.1.born)).map (·.2)=left ∧
  (∀ p,cur=some p→∃ e,(e,p)∈es.toList.zip l∧seen.back?=some e.born)
theorem ZK.of_blocks {w w':World} {r b:Nat} {l left:List (K × V)} {cur:Option (K × V)} (h:ZK ek ev w r b l left cur) (hr:w'.heap[r]?=w.heap[r]?) (hb:w'.heap[b]?=w.heap[b]?):ZK ek ev w' r b l left cur:=by
 obtain ⟨hn,es,clock,seen,h1,h2,h3⟩:=h
 exact ⟨hn,es,clock,seen,hb.trans h1,hr.trans h2,h3⟩
theorem ZK.lt {w:World} {r b:Nat} {l left:List (K × V)} {cur:Option (K × V)} (h:ZK ek ev w r b l left cur):r<w.heap.size∧b<w.heap.size:=by
 obtain ⟨hn,es,clock,seen,h1,h2,h3⟩:=h
 exact ⟨(Array.getElem?_eq_some_iff.1 h2).1,(Array.getElem?_eq_some_iff.1 h1).1⟩
theorem ZK.alloc {w:World} {r b:Nat} {l left:List (K × V)} {cur:Option (K × V)} (h:ZK ek ev w r b l left cur) (o:Obj):ZK ek ev (w.alloc o) r b l left cur :=
 h.of_blocks (Below.heap_alloc _ _ _ h.lt.1) (Below.heap_alloc _ _ _ h.lt.2)
theorem ZK.ext {S:Nat→Prop} {w w':World} {r b:Nat} {l left:List (K × V)} {cur:Option (K × V)} (h:ZK ek ev w r b l left cur) (hx:Ext S w w') (h1:¬ S r) (h2:¬ S b):ZK ek ev w' r b l left cur :=
 h.of_blocks (hx.block r h.lt.1 h1) (hx.block b h.lt.2 h2)
theorem QX {es:List MapEntry} {l:List (K × V)} (h:es.map (·.key)=l.map (fun p=>ek p.1)):(es.zip l).map (·.2)=l:=by
 have:=congrArg List.length h
 simp only[List.length_map] at this
 rw[List.map_snd_zip]
 omega
theorem Z6.range {P:Program} {w:World} {b:Nat} {l:List (K × V)} {mt kt et:TypeId} (h:Z6 ek ev w b l) (hm:P.underlying mt=some (.map kt et)) :
  ∃ w',(Instr.range mt (.map (some b))).run P w=.ok (.pointer (some ⟨w.heap.size,0,none⟩)) w'∧ZK ek ev w' w.heap.size b l l none∧Below w.heap.size w w'∧w'.heap.size=w.heap.size+1:=by
 have hlt:=h.lt
 obtain ⟨hn,es,clock,h1,h2,h3,h4,h5⟩:=h
 refine ⟨w.alloc (.mapIter (some b) clock #[] clock),?_,⟨hn,es,clock,#[],?_,?_,h2,h3,h4,h5,?_,?_⟩,(Below.refl _ _).alloc (Nat.le_refl _) _,by simp⟩
 ·simp[Instr.range,run_underlying hm,ZA h1,Result.andThen]
 ·rw[Below.heap_alloc _ _ _ hlt];exact h1
 ·show (w.heap.push _)[w.heap.size]?=_
  simp
 ·rw[List.filter_eq_self.2 (by simp)]
  exact QX h2
 ·intro p hp;cases hp
theorem Z0S {es:List MapEntry} {l:List (K × V)} (h:es.map (·.key)=l.map (fun p=>ek p.1)):(es.zip l).map (·.1)=es:=by
 have:=congrArg List.length h
 simp only[List.length_map] at this
 rw[List.map_fst_zip]
 omega
theorem RO {es:List MapEntry} {l:List (K × V)} (hp:es.Pairwise (fun x y=>x.born<y.born)):(es.zip l).Pairwise (fun x y=>x.1.born<y.1.born):=by
 induction es generalizing l with
 | nil=>simp
 | cons e es ih =>
  cases l with
  | nil=>simp
  | cons q l =>
   rw[List.zip_cons_cons]
   rw[List.pairwise_cons] at hp ⊢
   refine ⟨fun y hy=>hp.1 y.1 (List.of_mem_zip hy).1,ih hp.2⟩
theorem ZK.next1 {P:Program} {w:World} {r b:Nat} {l left:List (K × V)} {cur:Option (K × V)} {ty:TypeId} (h:ZK ek ev w r b l left cur) (hrb:r≠b) :
  (left=[]∧(Instr.next (.pointer (some ⟨r,0,none⟩)) false ty).run P w=.ok (.tuple #[.bool false]) w) ∨
  ∃ i p w',left[i]?=some p∧(Instr.next (.pointer (some ⟨r,0,none⟩)) false ty).run P w=.ok (.tuple #[.bool true,ek p.1,ev p.2]) w'∧ZK ek ev w' r b l (left.eraseIdx i) (some p)∧Ext (·=r) w w'∧w'.heap.size=w.heap.size:=by
 have hlt:=h.lt
 obtain ⟨hn,es,clock,seen,h1,h2,h3,h4,h5,h6,h7,h8⟩:=h
 have hz:=Z0S h3
 have hgr:(getObj r).run P w=.ok (.mapIter (some b) clock seen clock) w:=by simp[getObj,Sem.run,h2]
 have hgb:(getObj b).run P w=.ok (.map es clock) w:=ZA h1
 have hold:(es.filter fun e=>!seen.contains e.born).filter (fun e=>decide (e.born<clock))=es.filter fun e=>!seen.contains e.born:=by
  rw[Array.filter_eq_self]
  intro e he
  simp only[decide_eq_true_eq]
  exact h6 e (by simpa using (Array.mem_filter.1 he).1)
 have hnew:(es.filter fun e=>!seen.contains e.born).filter (fun e=>decide (e.born≥clock))=#[]:=by
  rw[Array.filter_eq_empty_iff]
  intro e he
  simp only[decide_eq_true_eq]
  have:=h6 e (by simpa using (Array.mem_filter.1 he).1)
  omega
 have hall:(!seen.isEmpty && !es.isEmpty && es.all fun e=>decide (e.born≥clock))=false:=by
  cases hes:es.isEmpty with
  | true=>simp
  | false =>
   simp only[Bool.not_false,Bool.and_true]
   rw[Bool.and_eq_false_iff]
   right
   have h0:0<es.size:=by
    rw[Array.isEmpty_eq_false_iff] at hes
    exact Array.size_pos_iff.2 hes
   have:=h6 es[0] (by simp)
   cases hq:es.all fun e=>decide (e.born≥clock) with
   | false=>rfl
   | true =>
    rw[Array.all_eq_true] at hq
    have:=hq 0 h0
    simp at this
    omega
 have hleft:left.map (fun p=>p)=left:=List.map_id' _
 generalize hF:(es.toList.zip l).filter (fun x=>!seen.contains x.1.born)=F at h7
 have hFes:(es.filter fun e=>!seen.contains e.born).toList=F.map (·.1):=by
  rw[Array.toList_filter,←hF]
  conv=>lhs;rw[←hz]
  rw[List.filter_map]
  rfl
 by_cases hemp:left=[]
 ·left
  refine ⟨hemp,?_⟩
  have hFnil:F=[]:=by rw[hemp] at h7;exact List.map_eq_nil_iff.1 h7
  have he:es.filter (fun e=>!seen.contains e.born)=#[]:=by
   apply Array.toList_inj.1
   rw[hFes,hFnil]
   rfl
  simp only[Instr.next,Sem.run_bind,hgr,Result.andThen_ok,hgb,hall,Bool.false_eq_true,if_false,Sem.run_pure]
  rw[hold,hnew,he]
  simp[Question.forced]
 ·right
  have hne:F≠[]:=fun e=>hemp (by rw[←h7,e];rfl)
  have hpos:0<F.length:=List.length_pos_iff.2 hne
  have hemp2:(es.filter fun e=>!seen.contains e.born).isEmpty=false:=by
   rw[Array.isEmpty_eq_false_iff]
   intro e
   have:=congrArg Array.toList e
   rw[hFes] at this
   exact hne (List.map_eq_nil_iff.1 this)
  have key:∀ i (hi:i<F.length) (w0:World),w0.heap=w.heap→w0.os=w.os→w0.tape=w.tape→w0.output=w.output →
    ∃ p w',left[i]?=some p∧(do setObj r (.mapIter (some b) clock (seen.push (F[i]'hi).1.born) clock);pure (Value.tuple #[.bool true,(F[i]'hi).1.key,(F[i]'hi).1.val]):Sem Value).run P w0=.ok (.tuple #[.bool true,ek p.1,ev p.2]) w'∧ZK ek ev w' r b l (left.eraseIdx i) (some p)∧Ext (·=r) w w'∧w'.heap.size=w.heap.size:=by
   intro i hi w0 g1 g2 g3 g4
   obtain ⟨e,p,hep⟩:∃ e p,F[i]'hi=(e,p):=⟨_,_,rfl⟩
   rw[hep]
   have hmem:(e,p)∈es.toList.zip l:=by
    have:(e,p)∈F:=by rw[←hep];exact List.getElem_mem hi
    rw[←hF] at this
    exact (List.mem_filter.1 this).1
   obtain ⟨q,hq⟩:=List.getElem?_of_mem hmem
   rw[List.getElem?_zip_eq_some] at hq
   have hk:e.key=ek p.1:=by
    have:=congrArg (fun l:List Value=>l[q]?) h3
    simpa [hq.1,hq.2] using this
   have hv:e.val=ev p.2:=by
    have:=congrArg (fun l:List Value=>l[q]?) h4
    simpa [hq.1,hq.2] using this
   have hFi:F[i]?=some (e,p):=by rw[List.getElem?_eq_getElem hi,hep]
   have hr0:w0.heap[r]?=some (.mapIter (some b) clock seen clock):=by rw[g1];exact h2
   refine ⟨p,{ w0 with heap:=w0.heap.setIfInBounds r (.mapIter (some b) clock (seen.push e.born) clock) },?_,?_,?_,⟨g2,g3,g4,by simp[g1],fun k hk' hkr=>?_⟩,by simp[g1]⟩
   ·rw[←h7,List.getElem?_map,hFi];rfl
   ·have:(setObj r (.mapIter (some b) clock (seen.push e.born) clock)).run P w0=.ok () { w0 with heap:=w0.heap.setIfInBounds r (.mapIter (some b) clock (seen.push e.born) clock) }:=by simp[setObj,Sem.run,hr0]
    simp only[Sem.run_bind,this,Result.andThen_ok,Sem.run_pure,hk,hv]
   ·refine ⟨hn,es,clock,seen.push e.born,?_,?_,h3,h4,h5,h6,?_,?_⟩
    ·show (w0.heap.setIfInBounds r _)[b]?=_
     rw[Array.getElem?_setIfInBounds_ne hrb,g1];exact h1
    ·show (w0.heap.setIfInBounds r _)[r]?=_
     rw[Array.getElem?_setIfInBounds_self_of_lt (by rw[g1];exact hlt.1)]
    ·have e1:(es.toList.zip l).filter (fun x=>!(seen.push e.born).contains x.1.born)=F.filter (fun x=>!(x.1.born == e.born)):=by
      rw[←hF,List.filter_filter]
      refine List.filter_congr fun x _=>?_
      simp only[Array.contains_push,Bool.not_or]
      rw[Bool.and_comm]
     have hpw:F.Pairwise (fun x y=>x.1.born<y.1.born):=by rw[←hF];exact (RO h5).filter _
     rw[e1,ChangeMaps.filter_eq_eraseIdx (fun x:MapEntry × (K × V)=>x.1.born == e.born) F i (e,p) hFi (by simp) (hpw.imp (fun {x y} hxy ⟨a,c⟩=>by simp at a c;omega)),ChangeMaps.map_eraseIdx,h7]
    ·intro p' hp'
     cases hp'
     exact ⟨e,hmem,by simp⟩
   ·show (w0.heap.setIfInBounds r _)[k]?=_
    rw[Array.getElem?_setIfInBounds_ne (fun e=>hkr e.symm),g1]
  have hsz:((es.filter fun (e:MapEntry)=>!seen.contains e.born).map some).size=F.length:=by
   have:=congrArg List.length hFes
   rw[Array.size_map]
   rw[←Array.length_toList,hFes,List.length_map]
  have hget:∀ i (hi:i<F.length),((es.filter fun (e:MapEntry)=>!seen.contains e.born).map some)[i]?=some (some (F[i]'hi).1):=by
   intro i hi
   rw[Array.getElem?_map,←Array.getElem?_toList,hFes,List.getElem?_map,List.getElem?_eq_getElem hi]
   rfl
  have hrun:∀ i (hi:i<F.length) w0,(choose (.mapNext F.length)).run P w=.ok i w0→(Instr.next (.pointer (some ⟨r,0,none⟩)) false ty).run P w =
    (do setObj r (.mapIter (some b) clock (seen.push (F[i]'hi).1.born) clock);pure (Value.tuple #[.bool true,(F[i]'hi).1.key,(F[i]'hi).1.val]):Sem Value).run P w0:=by
   intro i hi w0 hc
   simp only[Instr.next,Sem.run_bind,hgr,Result.andThen_ok,hgb,hall,Bool.false_eq_true,if_false,Sem.run_pure]
   rw[hold,hnew,hemp2]
   simp only[Bool.false_eq_true,if_false,Array.empty_append,Array.append_empty]
   rw[hsz,hc,Result.andThen_ok,hget i hi]
   simp only[Sem.run_bind,Sem.run_pure]
  by_cases hforced:F.length≤1
  ·obtain ⟨p,w',k1,k2,k3⟩:=key 0 hpos w rfl rfl rfl rfl
   refine ⟨0,p,w',k1,?_,k3⟩
   rw[←k2]
   exact hrun 0 hpos w (by rw[run_choose_drew,if_pos (by simp[Question.forced,hforced])])
  ·obtain ⟨p,w',k1,k2,k3⟩:=key (w.tape w.drawn (.mapNext F.length) % F.length) (Nat.mod_lt _ hpos) w.drew rfl rfl rfl rfl
   refine ⟨_,p,w',k1,?_,k3⟩
   rw[←k2]
   exact hrun _ (Nat.mod_lt _ hpos) w.drew (by rw[run_choose_drew,if_neg (by simp[Question.forced];omega)];rfl)
theorem ZK.next {P:Program} {w:World} {r b:Nat} {l left:List (K × V)} {cur:Option (K × V)} (h:ZK ek ev w r b l left cur) (hrb:r≠b) :
  (left=[]∧∀ ty,(Instr.next (.pointer (some ⟨r,0,none⟩)) false ty).run P w=.ok (.tuple #[.bool false]) w) ∨
  ∃ i p w',left[i]?=some p∧(∀ ty,(Instr.next (.pointer (some ⟨r,0,none⟩)) false ty).run P w=.ok (.tuple #[.bool true,ek p.1,ev p.2]) w')∧ZK ek ev w' r b l (left.eraseIdx i) (some p)∧Ext (·=r) w w'∧w'.heap.size=w.heap.size:=by
 rcases h.next1 (P:=P) (ty:=0) hrb with ⟨h1,h2⟩|⟨i,p,w',h1,h2,h3⟩
 ·exact .inl ⟨h1,fun _=>h2⟩
 ·exact .inr ⟨i,p,w',h1,fun _=>h2,h3⟩
theorem ZK.entry {P:Program} {w:World} {r b:Nat} {l left:List (K × V)} {p:K × V} (h:ZK ek ev w r b l left (some p)) :
  (Instr.entry (.pointer (some ⟨r,0,none⟩))).run P w=.ok (.tuple #[ek p.1,ev p.2]) w:=by
 obtain ⟨hn,es,clock,seen,h1,h2,h3,h4,h5,h6,h7,h8⟩:=h
 obtain ⟨e,hmem,hback⟩:=h8 p rfl
 obtain ⟨q,hq⟩:=List.getElem?_of_mem hmem
 rw[List.getElem?_zip_eq_some] at hq
 have hk:e.key=ek p.1:=by
  have:=congrArg (fun l:List Value=>l[q]?) h3
  simpa [hq.1,hq.2] using this
 have hv:e.val=ev p.2:=by
  have:=congrArg (fun l:List Value=>l[q]?) h4
  simpa [hq.1,hq.2] using this
 have hgr:(getObj r).run P w=.ok (.mapIter (some b) clock seen clock) w:=by simp[getObj,Sem.run,h2]
 have hgb:(getObj b).run P w=.ok (.map es clock) w:=ZA h1
 have hfind:es.find? (fun x=>x.born == e.born)=some e:=by
  rw[←Array.find?_toList]
  rw[List.find?_eq_some_iff_getElem]
  obtain ⟨hq',hqe⟩:=List.getElem?_eq_some_iff.1 hq.1
  refine ⟨by simp,q,hq',hqe,fun j hj=>?_⟩
  have hj':j<es.toList.length:=by omega
  have:=List.pairwise_iff_getElem.1 h5 j q hj' hq' hj
  rw[hqe] at this
  simp
  simp at this
  omega
 simp[Instr.entry,hgr,hgb,hback,hfind,hk,hv,Result.andThen]
end
abbrev Zi:=St→Option Ch
inductive Up (h:Zi):St→St→Prop
 | refl (u:St):Up h u u
 | step {u b:St} {c:Ch}:h u=some c→Up h c.under b→Up h u b
def Y6 (h:Zi):Nat→St→Prop
 | 0,u=>h u=none
 | n+1,u=>∃ c,h u=some c∧Y6 h n c.under
def XA (h:Zi):Prop:=∀ u,∃ n,Y6 h n u
theorem Z3f {h:Zi} {u b:St} (hn:h u=none) (hne:u≠b):¬ Up h u b:=by
 intro hu
 cases hu with
 | refl=>exact hne rfl
 | step hc _=>rw[hn] at hc;cases hc
theorem Z39 {h:Zi} {u b:St} {c:Ch} (hc:h u=some c) (hne:u≠b):Up h u b↔Up h c.under b:=by
 constructor
 ·intro hu
  cases hu with
  | refl=>exact absurd rfl hne
  | step hc' k=>rw[hc] at hc';cases hc';exact k
 ·exact fun k=>.step hc k
def V5 (h:Zi) (b:St) (c:Ch):Zi:=fun k=>if k=b then some c else h k
theorem Wl (h:Zi) (b:St) (c:Ch):V5 h b c b=some c:=by simp[V5]
theorem Xa (h:Zi) {b k:St} (c:Ch) (hk:k≠b):V5 h b c k=h k:=by simp[V5,hk]
open Classical in
noncomputable def WH (h:Zi) (c:Ch):Bool:=!(decide (Up h c.under c.block))
open Classical in
noncomputable def Xp (h:Zi) (c:Ch):Zi:=if Up h c.under c.block then h else V5 h c.block c
theorem Ua {h:Zi} {c:Ch} (ht:WH h c=true):Xp h c=V5 h c.block c:=by
 simp only[WH,Bool.not_eq_true',decide_eq_false_iff_not] at ht
 rw[Xp,if_neg ht]
theorem Ux {h:Zi} {c:Ch} (ht:WH h c=false):Xp h c=h:=by
 simp only[WH,Bool.not_eq_false',decide_eq_true_eq] at ht
 rw[Xp,if_pos ht]
noncomputable def UI (cs:List Ch):Zi:=cs.foldl Xp (fun _=>none)
theorem Z1G (cs:List Ch) (c:Ch):UI (cs++[c])=Xp (UI cs) c:=by simp[UI]
theorem U9 {h:Zi} {b:St} {c:Ch}:∀ (n:Nat) (u:St),Y6 h n u→¬ Up h u b→Y6 (V5 h b c) n u
 | 0,u,he,hu=>by
  show V5 h b c u=none
  rw[Xa h c (fun e=>hu (by rw[e];exact .refl _))];exact he
 | n+1,u,⟨d,hd,he⟩,hu=>by
  refine ⟨d,?_,U9 n d.under he (fun k=>hu (.step hd k))⟩
  rw[Xa h c (fun e=>hu (by rw[e];exact .refl _))];exact hd
theorem Z2c:XA (fun _=>none):=fun u=>⟨0,rfl⟩
theorem Z1V {h:Zi} (ha:XA h) (c:Ch):XA (Xp h c):=by
 by_cases ht:Up h c.under c.block
 ·rw[Xp,if_pos ht];exact ha
 ·rw[Xp,if_neg ht]
  have hb:∃ n,Y6 (V5 h c.block c) n c.block:=by
   obtain ⟨n,hn⟩:=ha c.under
   exact ⟨n+1,c,Wl _ _ _,U9 n _ hn ht⟩
  intro u
  by_cases hu:Up h u c.block
  ·have key:∀ {u b:St},Up h u b→b=c.block→∃ n,Y6 (V5 h c.block c) n u:=by
    intro u b hub
    induction hub with
    | refl u=>rintro rfl;exact hb
    | @step u b d hd _ ih =>
     intro e
     by_cases hub:u=c.block
     ·rw[hub];exact hb
     ·obtain ⟨n,hn⟩:=ih e
      exact ⟨n+1,d,by rw[Xa _ _ hub];exact hd,hn⟩
   exact key hu rfl
  ·obtain ⟨n,hn⟩:=ha u
   exact ⟨n,U9 n u hn hu⟩
theorem Z1E (cs:List Ch):XA (UI cs):=by
 have:∀ (cs:List Ch) (h:Zi),XA h→XA (cs.foldl Xp h):=fun cs=>by
  induction cs with
  | nil=>intro h ha;exact ha
  | cons c cs ih=>intro h ha;exact ih _ (Z1V ha c)
 exact this cs _ Z2c
theorem Z1C:Tryz.prog.underlying 23=some (.struct (Tryz.prog.fieldsOf 23)):=by kernel_rfl
theorem Z2r (a b:St) (w:World):(Op.equal 23 a.val b.val).run Tryz.prog w=.ok (decide (a=b)) w:=by
 obtain ⟨a1,a2⟩:=a
 obtain ⟨b1,b2⟩:=b
 unfold Op.equal Op.maxDepth St.val
 go_simp
 by_cases h1:a1=b1 <;> by_cases h2:a2=b2 <;> simp[h1,h2]
theorem Qh (em:Bool) (a:St) (w:World):(Instr.checkKey em 10000 23 a.val).run Tryz.prog w=.ok () w:=by
 obtain ⟨a1,a2⟩:=a
 kernel_rfl
theorem ZL {V:Type}:WB (V:=V) Tryz.prog 23 St.val :=
 WB.of_equal Z1C (fun a=>⟨_,rfl⟩) Qh Z2r (fun a=>by simp[St.val,Instr.sameBits])
theorem ZS (a b:ByteArray):a.toList=b.toList↔a=b:=by
 rw[ByteArray.toList_eq,ByteArray.toList_eq]
 constructor
 ·intro h
  obtain ⟨x⟩:=a
  obtain ⟨y⟩:=b
  exact congrArg ByteArray.mk (Array.toList_inj.1 h)
 ·intro h;rw[h]
attribute [local go_sem] Z6.alloc Z6.drew Z6.setCell
attribute [local go_sem] Oper.semAt_some
attribute [local go_sem] Z6.alloc Z6.drew Z6.setCell
end Go.Proofs.YtlgipkemoldckaaGreatDoor
namespace Go.Proofs.YtlgipkemoldckaaGreatDoor
open Go
section
variable {P:Program} {ops:Array Oper} {Q:Exit→Act→World→Prop} {md:Region.Mode} {S:World→Prop} {z:Nat}
def Z3F (listed:Array Bool) (js:List Nat):Array Bool:=js.foldl (fun l j=>l.setIfInBounds j true) listed
end
end Go.Proofs.YtlgipkemoldckaaGreatDoor
namespace Go.Proofs.YtlgipkemoldckaaGreatDoor
open Go.RowKit
attribute [local go_sem] Z6.alloc Z6.drew Z6.setCell
def XW (a b u:St):Bool:=Z7 a && Z7 b && (decide (u=⟨0,0⟩) || Z7 u)
attribute [local go_sem] Z6.alloc Z6.drew Z6.setCell
open Classical in
noncomputable def Vn:List (St × Ch)→St × Ch→List (St × Ch)
 | [],x=>[x]
 | y :: ys,x=>if ZI y.1 x.1 then y :: Vn ys x else x :: y :: ys
noncomputable def Y3 (c:List (St × Ch)):Zi:=UI (c.map (·.2))
section
variable {base:Nat} {w w':World} {t mh:Nat} {c:List (St × Ch)}
open Classical in
noncomputable def Yo (c:List (St × Ch)) (a b u:St):Int:=if XW a b u=true then (if ∃ x∈c,x.1=a then 141 else 0) else 1
open Classical in
noncomputable def WJ (c:List (St × Ch)) (a:St) (x:Ch):List (St × Ch):=if Yo c a x.block x.under=0 then Vn c (a,x) else c
end
end Go.Proofs.YtlgipkemoldckaaGreatDoor
namespace Go.Proofs.YtlgipkemoldckaaGreatDoor
open Go.ChangeShapes Go.WideShapes Go.RowKit Go.Deep
structure RMv where
 at_:St
 block:St
 under:St
 key:ByteArray
 deriving DecidableEq
def RMv.cells (x:RMv):List Value:=[.int .i64 x.at_.n,.int .i64 x.at_.r,.int .i64 x.block.n,.int .i64 x.block.r,.int .i64 x.under.n,.int .i64 x.under.r,.string x.key]
def RMv.ch (x:RMv):Ch:=⟨x.block,x.under,x.key⟩
theorem RMv.len (x:RMv):x.cells.length=7:=rfl
section
variable {H:Type} {enc:TypeId × Value→H} {w:World} {base:Nat} {spare:Nat→Bool} {held:Bool}
theorem Z0n {fuel:Nat} {cs:List Value} {x:DataW H × List MemPlace} (h:DataW.trod enc Tryz.prog w base spare held fuel 88 cs=some x):∃ y:RMv,cs=y.cells:=by
 obtain ⟨xs,n,_,_,hlen,hxl,hf⟩:=DataW.trod_struct Tryz.underlying88 h
 have hc:Tryz.prog.cellsOf 88=7:=by kernel_rfl
 have hc1:Tryz.prog.cellsOf 23=2:=by kernel_rfl
 have hc2:Tryz.prog.cellsOf 9=1:=by kernel_rfl
 rw[hc] at hlen
 match cs,hlen with
 | [a,b,c,d,e,f,g],_ =>
  have f0:DataW.trod enc Tryz.prog w base spare held n 23 [a,b]=xs[0]?:=by simpa [hc1] using hf 0 _ rfl
  have f1:DataW.trod enc Tryz.prog w base spare held n 23 [c,d]=xs[1]?:=by simpa [hc1] using hf 1 _ rfl
  have f2:DataW.trod enc Tryz.prog w base spare held n 23 [e,f]=xs[2]?:=by simpa [hc1] using hf 2 _ rfl
  have f3:DataW.trod enc Tryz.prog w base spare held n 9 [g]=xs[3]?:=by simpa [hc2] using hf 3 _ rfl
  simp at hxl
  obtain ⟨s,hs⟩:=YJ (f0.trans (List.getElem?_eq_getElem (by omega)))
  obtain ⟨u,hu⟩:=YJ (f1.trans (List.getElem?_eq_getElem (by omega)))
  obtain ⟨p,hp⟩:=YJ (f2.trans (List.getElem?_eq_getElem (by omega)))
  obtain ⟨q,hq,_⟩:=DataW.trod_string Tryz.underlying9 (f3.trans (List.getElem?_eq_getElem (by omega)))
  simp at hs hu hp hq
  exact ⟨⟨s,u,p,q⟩,by simp[RMv.cells,hs,hu,hp,hq]⟩
end
def Z3z (w:World) (b o:Nat) (x:RMv):Prop:=w.cell? ⟨b,o,none⟩=some (.int .i64 x.at_.n)∧w.cell? ⟨b,o+1,none⟩=some (.int .i64 x.at_.r)∧w.cell? ⟨b,o+2,none⟩=some (.int .i64 x.block.n)∧w.cell? ⟨b,o+3,none⟩=some (.int .i64 x.block.r) ∧
 w.cell? ⟨b,o+4,none⟩=some (.int .i64 x.under.n)∧w.cell? ⟨b,o+5,none⟩=some (.int .i64 x.under.r)∧w.cell? ⟨b,o+6,none⟩=some (.string x.key)
theorem Z4.rcells {w:World} {v:Value} {l:List RMv} (h:Z4 RMv.cells 7 w v l) (hne:l≠[]):∃ b o cap,v=.slice (some ⟨b,o,none⟩) l.length cap∧∀ i x,l[i]?=some x→Z3z w b (o+i*7) x:=by
 obtain ⟨a,cap,rfl,_,_,h4⟩:=h
 obtain ⟨b,o,rfl,h6⟩:=h4 hne
 refine ⟨b,o,cap,rfl,fun i x hi=>⟨h6 i x hi 0 _ rfl,h6 i x hi 1 _ rfl,h6 i x hi 2 _ rfl,h6 i x hi 3 _ rfl,h6 i x hi 4 _ rfl,h6 i x hi 5 _ rfl,h6 i x hi 6 _ rfl⟩⟩
def Yl (w:World) (Z:Nat) (u:St):Prop:=w.heap[Z]?=some (.cells #[.int .i64 u.n,.int .i64 u.r] 23 (0,0))
section
variable {w w':World} {Z:Nat} {u:St}
theorem Yl.new (w:World) (u:St):Yl (w.alloc (.cells #[.int .i64 u.n,.int .i64 u.r] 23)) w.heap.size u:=World.alloc_heap_new w _
theorem Yl.c0 (h:Yl w Z u):w.cell? ⟨Z,0,none⟩=some (.int .i64 u.n):=by have h:=show w.heap[Z]?=_ from h;simp[World.cell?,h]
theorem Yl.c1 (h:Yl w Z u):w.cell? ⟨Z,1,none⟩=some (.int .i64 u.r):=by have h:=show w.heap[Z]?=_ from h;simp[World.cell?,h]
theorem Yl.f0 (h:Yl w Z u):w.frozen? ⟨Z,0,none⟩=false:=by have h:=show w.heap[Z]?=_ from h;simp[World.frozen?,h]
theorem Yl.f1 (h:Yl w Z u):w.frozen? ⟨Z,1,none⟩=false:=by have h:=show w.heap[Z]?=_ from h;simp[World.frozen?,h]
theorem Yl.lt (h:Yl w Z u):Z<w.heap.size:=(Array.getElem?_eq_some_iff.1 h).1
theorem Yl.ext {S:Nat→Prop} (h:Yl w Z u) (hx:Ext S w w') (hn:¬ S Z):Yl w' Z u:=(hx.block Z h.lt hn).trans h
theorem Yl.below (h:Yl w Z u) (hb:Below w.heap.size w w'):Yl w' Z u:=(hb.block Z h.lt).trans h
theorem Yl.alloc (h:Yl w Z u) (o:Obj):Yl (w.alloc o) Z u:=(Below.heap_alloc _ _ _ h.lt).trans h
theorem Yl.set (h:Yl w Z u) (a b:Int):Yl ((w.setCell ⟨Z,0,none⟩ (.int .i64 a)).setCell ⟨Z,1,none⟩ (.int .i64 b)) Z ⟨a,b⟩:=by
 have h:=show w.heap[Z]?=_ from h
 show (World.heap _)[Z]?=_
 simp only[World.setCell,Array.getElem?_modify,if_true,h]
 rfl
end
end Go.Proofs.YtlgipkemoldckaaGreatDoor
namespace Go.Proofs.YtlgipkemoldckaaGreatDoor
open Go.RowKit
theorem Z2N:Y3 []=fun _=>none:=rfl
theorem Qo {c:List (St × Ch)} {a b u:St} (hg:XW a b u=true) (hn:∀ x∈c,x.1≠a):Yo c a b u=0:=by
 unfold Yo
 rw[if_pos hg,if_neg (fun ⟨x,h1,h2⟩=>hn x h1 h2)]
section
variable (ka kb:ByteArray)
end
theorem Z0s:(Tryz.prog.info? 88).map (fun i=>(i.zero,i.size,i.bytes))=some (some (.agg #[.int .i64 0,.int .i64 0,.int .i64 0,.int .i64 0,.int .i64 0,.int .i64 0,.string ⟨#[]⟩]),7,64):=by kernel_rfl
theorem RMv.one (x:RMv):∀ u∈x.cells,u.oneCell'=true:=by
 intro u hu
 simp only[RMv.cells,List.mem_cons,List.not_mem_nil,or_false] at hu
 rcases hu with rfl|rfl|rfl|rfl|rfl|rfl|rfl <;> rfl
end Go.Proofs.YtlgipkemoldckaaGreatDoor
namespace Go.Proofs.YtlgipkemoldckaaGreatDoor
def S4 (c:List (St × Ch)):Prop:=c.Pairwise (fun a b=>ZI a.1 b.1)
theorem Ti {c:List (St × Ch)} {x z:St × Ch}:z∈Vn c x↔z=x∨z∈c:=by
 induction c with
 | nil=>simp[Vn]
 | cons y c ih =>
  unfold Vn
  split
  ·rw[List.mem_cons,ih,List.mem_cons]
   constructor
   ·rintro (h|h|h)
    ·exact .inr (.inl h)
    ·exact .inl h
    ·exact .inr (.inr h)
   ·rintro (h|h|h)
    ·exact .inr (.inl h)
    ·exact .inl h
    ·exact .inr (.inr h)
  ·rw[List.mem_cons]
theorem Z2G {c:List (St × Ch)} {x:St × Ch} (hr:S4 c) (hn:∀ y∈c,y.1≠x.1):S4 (Vn c x):=by
 induction c with
 | nil=>simp[Vn,S4]
 | cons y c ih =>
  have h:=List.pairwise_cons.1 hr
  unfold Vn
  split
  ·rename_i hlt
   refine List.pairwise_cons.2 ⟨fun z hz=>?_,ih h.2 (fun z hz=>hn z (by simp[hz]))⟩
   rcases Ti.1 hz with rfl|hz
   ·exact hlt
   ·exact h.1 z hz
  ·rename_i hlt
   have hxy:ZI x.1 y.1:=by
    rcases Y5 x.1 y.1 with t|t|t
    ·exact t
    ·exact absurd t.symm (hn y (by simp))
    ·exact absurd t hlt
   refine List.pairwise_cons.2 ⟨fun z hz=>?_,hr⟩
   rcases List.mem_cons.1 hz with rfl|hz
   ·exact hxy
   ·exact ZC hxy (h.1 z hz)
end Go.Proofs.YtlgipkemoldckaaGreatDoor
namespace Go.Proofs.YtlgipkemoldckaaGreatDoor
open Go.RowKit
def upd {α:Type} (f:Nat→α) (i:Nat) (x:α):Nat→α:=fun t=>if t=i then x else f t
theorem RD {α:Type} (f:Nat→α) (i:Nat) (x:α):upd f i x i=x:=by simp[upd]
theorem Sx {α:Type} (f:Nat→α) {i t:Nat} (x:α) (h:t≠i):upd f i x t=f t:=by simp[upd,h]
def Vi (w:World) (blk o:Nat):Nat→List Value→World
 | _,[]=>w
 | j,v :: vs=>Vi (w.setCell ⟨blk,o+j,none⟩ v) blk o (j+1) vs
def V0 (cur:Array Value) (o:Nat):Nat→List Value→Array Value
 | _,[]=>cur
 | j,v :: vs=>V0 (cur.setIfInBounds (o+j) v) o (j+1) vs
theorem T3 (o:Nat):∀ (vs:List Value) (j:Nat) (cur:Array Value),(V0 cur o j vs).size=cur.size
 | [],_,_=>rfl
 | v :: vs,j,cur=>by rw[V0,T3 o vs];simp
theorem TN (o:Nat):∀ (vs:List Value) (j:Nat) (cur:Array Value),o+j+vs.length≤cur.size→∀ t,(V0 cur o j vs)[t]?=if o+j≤t∧t<o+j+vs.length then vs[t - (o+j)]? else cur[t]?
 | [],j,cur,_,t=>by simp[V0];intro h1 h2;omega
 | v :: vs,j,cur,hs,t=>by
  simp only[List.length_cons] at hs
  rw[V0,TN o vs (j+1) _ (by simp;omega) t]
  by_cases h1:t=o+j
  ·subst h1
   have:(o+j)<cur.size:=by omega
   rw[if_neg (by omega),if_pos (by simp)]
   simp[this]
  ·by_cases h2:o+(j+1)≤t∧t<o+(j+1)+vs.length
   ·rw[if_pos h2,if_pos (by simp only[List.length_cons];omega)]
    have:t - (o+j)=(t - (o+(j+1)))+1:=by omega
    rw[this,List.getElem?_cons_succ]
   ·rw[if_neg h2,if_neg (by simp only[List.length_cons];omega),Array.getElem?_setIfInBounds_ne (fun e=>h1 e.symm)]
theorem Rf {w:World} {blk o:Nat} {cur:Array Value} {T:TypeId} {fr:Nat × Nat} (h:w.heap[blk]?=some (.cells cur T fr)) (v:Value):(w.setCell ⟨blk,o,none⟩ v).heap[blk]?=some (.cells (cur.setIfInBounds o v) T fr):=by
 simp only[World.setCell,Array.getElem?_modify,if_true,h]
 rfl
theorem UQ {blk o:Nat} {T:TypeId} {fr:Nat × Nat}:∀ (vs:List Value) (j:Nat) (w:World) (cur:Array Value),w.heap[blk]?=some (.cells cur T fr)→(Vi w blk o j vs).heap[blk]?=some (.cells (V0 cur o j vs) T fr)
 | [],_,_,_,h=>h
 | v :: vs,j,w,cur,h=>UQ vs (j+1) _ _ (Rf h v)
theorem YW {blk o:Nat}:∀ (vs:List Value) (j:Nat) (w:World),Ext (·=blk) w (Vi w blk o j vs)
 | [],_,_=>Ext.refl _ _
 | v :: vs,j,w=>((Ext.refl (·=blk) w).setCell (p:=⟨blk,o+j,none⟩) (.inr rfl) v).trans (YW vs (j+1) _)
section
variable {α:Type} {ea:α→List Value} {k:Nat} {T:TypeId} {sz:Nat} {w w':World} {blk n:Nat} {f:Nat→α}
def Z8 (ea:α→List Value) (k:Nat) (T:TypeId) (sz:Nat) (w:World) (blk n:Nat) (f:Nat→α):Prop :=
 ∃ cur,w.heap[blk]?=some (.cells cur T (0,0))∧cur.size=sz∧n*k≤sz∧∀ i,i<n→∀ j u,(ea (f i))[j]?=some u→cur[i*k+j]?=some u
theorem Z8.cell (h:Z8 ea k T sz w blk n f) {i j:Nat} {u:Value} (hi:i<n) (hj:(ea (f i))[j]?=some u):w.cell? ⟨blk,i*k+j,none⟩=some u:=by
 obtain ⟨cur,h1,_,_,h2⟩:=h
 simp only[World.cell?,h1]
 exact h2 i hi j u hj
theorem Z8.lt (h:Z8 ea k T sz w blk n f):blk<w.heap.size:=by
 obtain ⟨cur,h1,_⟩:=h
 exact (Array.getElem?_eq_some_iff.1 h1).1
theorem Z8.ext {S:Nat→Prop} (h:Z8 ea k T sz w blk n f) (hx:Ext S w w') (hn:¬ S blk):Z8 ea k T sz w' blk n f:=by
 have hl:=h.lt
 obtain ⟨cur,h1,h2⟩:=h
 exact ⟨cur,(hx.block blk hl hn).trans h1,h2⟩
theorem Z8.below (h:Z8 ea k T sz w blk n f) (hb:Below w.heap.size w w'):Z8 ea k T sz w' blk n f :=
 h.ext (Ext.of_below (S:=fun _=>False) hb) id
theorem Z8.drew (h:Z8 ea k T sz w blk n f):Z8 ea k T sz w.drew blk n f:=h
theorem Z8.put (h:Z8 ea k T sz w blk n f) (hk:∀ x,(ea x).length=k) {i:Nat} (hi:i<n) (x:α):Z8 ea k T sz (Vi w blk (i*k) 0 (ea x)) blk n (upd f i x):=by
 obtain ⟨cur,h1,h2,h3,h4⟩:=h
 have hik:i*k+k≤n*k:=by
  have:=Nat.mul_le_mul_right k (show i+1≤n from hi)
  rwa [Nat.add_mul,Nat.one_mul] at this
 refine ⟨V0 cur (i*k) 0 (ea x),UQ _ _ _ _ h1,by rw[T3];exact h2,h3,fun t ht j u hj=>?_⟩
 rw[TN _ _ _ _ (by rw[hk];omega),hk]
 by_cases hti:t=i
 ·subst hti
  rw[RD] at hj
  have hjk:j<k:=by rw[←hk x];exact (List.getElem?_eq_some_iff.1 hj).1
  rw[if_pos (by omega)]
  have:t*k+j - (t*k+0)=j:=by omega
  rw[this];exact hj
 ·rw[Sx _ _ hti] at hj
  have hjk:j<k:=by rw[←hk (f t)];exact (List.getElem?_eq_some_iff.1 hj).1
  have hne:¬ (i*k+0≤t*k+j∧t*k+j<i*k+0+k):=by
   rintro ⟨a1,a2⟩
   rcases Nat.lt_or_gt_of_ne hti with hlt|hgt
   ·have:=Nat.mul_le_mul_right k (show t+1≤i from hlt)
    rw[Nat.add_mul,Nat.one_mul] at this;omega
   ·have:=Nat.mul_le_mul_right k (show i+1≤t from hgt)
    rw[Nat.add_mul,Nat.one_mul] at this;omega
  rw[if_neg hne]
  exact h4 t ht j u hj
def Yk (f:Nat→α) (p q:Nat):Nat→α:=fun t=>if t=p then f q else if t=q then f p else f t
theorem Own.slab {base g cap:Nat} {l:List α} [Inhabited α] (hk:∀ x,(ea x).length=k) (h:Own ea k T base w (.slice (some ⟨g,0,none⟩) l.length cap) l):Z8 ea k T (cap*k) w g l.length (fun i=>l[i]!)∧base≤g∧l.length≤cap∧cap≤maxLen:=by
 obtain ⟨h1,h2⟩:=h
 rcases h2 with ⟨h3,_⟩|⟨g',cap',cur,h3,hb,hg,hnc,hcm,hcs,htake⟩
 ·cases h3
 ·cases h3
  refine ⟨⟨cur,hg,hcs,Nat.mul_le_mul_right k hnc,fun i hi j u hj=>?_⟩,hb,hnc,hcm⟩
  have hx:l[i]?=some l[i]!:=by rw[List.getElem?_eq_getElem hi,getElem!_pos l i hi]
  have h4:=getElem?_flatMap_k hk l i _ hx j u hj
  rw[←htake,List.getElem?_take] at h4
  split at h4
  ·rw[Array.getElem?_toList] at h4;exact h4
  ·cases h4
theorem Z8.own {base cap:Nat} (hk:∀ x,(ea x).length=k) (hk0:0<k) (h:Z8 ea k T (cap*k) w blk n f) (hb:base≤blk) (hc:n≤cap) (hm:cap≤maxLen):Own ea k T base w (.slice (some ⟨blk,0,none⟩) n cap) ((List.range n).map f):=by
 obtain ⟨cur,h1,h2,h3,h4⟩:=h
 have hlen:((List.range n).map f).length=n:=by simp
 refine ⟨ZY hk _,.inr ⟨blk,cap,cur,by rw[hlen],hb,h1,by rw[hlen];exact hc,hm,h2,?_⟩⟩
 rw[hlen]
 refine List.ext_getElem? fun t=>?_
 rw[List.getElem?_take]
 by_cases ht:t<n*k
 ·rw[if_pos ht,Array.getElem?_toList]
  have hd:t / k<n:=(Nat.div_lt_iff_lt_mul hk0).2 ht
  have hm':t % k<k:=Nat.mod_lt _ hk0
  have he:t / k*k+t % k=t:=by rw[Nat.mul_comm];exact Nat.div_add_mod t k
  obtain ⟨u,hu⟩:∃ u,(ea (f (t / k)))[t % k]?=some u:=⟨_,List.getElem?_eq_getElem (by rw[hk];exact hm')⟩
  have h5:=h4 (t / k) hd (t % k) u hu
  have h6:=getElem?_flatMap_k hk ((List.range n).map f) (t / k) (f (t / k)) (by simp[hd]) (t % k) u hu
  rw[he] at h5 h6
  rw[h5,h6]
 ·rw[if_neg ht,List.getElem?_eq_none]
  rw[ZY hk,hlen];omega
end
end Go.Proofs.YtlgipkemoldckaaGreatDoor
namespace Go.Proofs.YtlgipkemoldckaaGreatDoor
section
variable {α:Type}
def Zs (a b:Nat) (f g:Nat→α):Prop :=
 ∃ s t:Nat→Nat,(∀ i,s (t i)=i)∧(∀ i,t (s i)=i)∧(∀ i,i<a∨b≤i→s i=i)∧∀ i,g i=f (s i)
theorem Zs.refl (a b:Nat) (f:Nat→α):Zs a b f f:=⟨id,id,fun _=>rfl,fun _=>rfl,fun _ _=>rfl,fun _=>rfl⟩
theorem Zs.trans {a b:Nat} {f g h:Nat→α} (h1:Zs a b f g) (h2:Zs a b g h):Zs a b f h:=by
 obtain ⟨s,t,st,ts,so,hg⟩:=h1
 obtain ⟨s',t',st',ts',so',hh⟩:=h2
 exact ⟨fun i=>s (s' i),fun i=>t' (t i),fun i=>by simp only[st',st],fun i=>by simp only[ts,ts'],fun i hi=>by simp only[so' i hi,so i hi],fun i=>by simp only[hh,hg]⟩
theorem Zs.mono {a b a' b':Nat} {f g:Nat→α} (h:Zs a b f g) (ha:a'≤a) (hb:b≤b'):Zs a' b' f g:=by
 obtain ⟨s,t,st,ts,so,hg⟩:=h
 exact ⟨s,t,st,ts,fun i hi=>so i (by omega),hg⟩
theorem Zs.out {a b:Nat} {f g:Nat→α} (h:Zs a b f g) {i:Nat} (hi:i<a∨b≤i):g i=f i:=by
 obtain ⟨s,t,st,ts,so,hg⟩:=h
 rw[hg,so i hi]
theorem Zs.from {a b:Nat} {f g:Nat→α} (h:Zs a b f g) {i:Nat} (h1:a≤i) (h2:i<b):∃ j,a≤j∧j<b∧g i=f j:=by
 obtain ⟨s,t,st,ts,so,hg⟩:=h
 refine ⟨s i,?_,?_,hg i⟩
 ·refine Nat.le_of_not_lt fun hn=>?_
  have:=so (s i) (.inl hn)
  have h3:=congrArg t this
  rw[ts,ts] at h3
  omega
 ·refine Nat.lt_of_not_le fun hn=>?_
  have:=so (s i) (.inr hn)
  have h3:=congrArg t this
  rw[ts,ts] at h3
  omega
theorem Zs.swap {a b p q:Nat} (f:Nat→α) (hp:a≤p∧p<b) (hq:a≤q∧q<b):Zs a b f (Yk f p q):=by
 refine ⟨fun i=>if i=p then q else if i=q then p else i,fun i=>if i=p then q else if i=q then p else i,fun i=>?_,fun i=>?_,fun i hi=>?_,fun i=>?_⟩
 ·simp only;(repeat' split) <;> omega
 ·simp only;(repeat' split) <;> omega
 ·simp only;rw[if_neg (by omega),if_neg (by omega)]
 ·unfold Yk;simp only;split
  ·rfl
  ·split <;> rfl
def ZO (lt:α→α→Prop) (a b:Nat) (f:Nat→α):Prop:=∀ i j,a≤i→i<j→j<b→lt (f i) (f j)
theorem ZO.congr {lt:α→α→Prop} {a b:Nat} {f g:Nat→α} (h:ZO lt a b f) (hg:∀ i,a≤i→i<b→g i=f i):ZO lt a b g:=fun i j h1 h2 h3=>by
 rw[hg i h1 (by omega),hg j (by omega) h3];exact h i j h1 h2 h3
structure XX (lt:α→α→Prop) (pos:α→Nat) (cf:α→α→Int):Prop where
 irrefl:∀ x,¬ lt x x
 trans:∀ x y z,lt x y→lt y z→lt x z
 total:∀ x y,pos x≠pos y→lt x y∨lt y x
 says:∀ x y,pos x<pos y→(cf y x<0↔lt y x)
variable {lt:α→α→Prop} {pos:α→Nat} {cf:α→α→Int}
structure Wc (lt:α→α→Prop) (pos:α→Nat) (a i j:Nat) (f g:Nat→α):Prop where
 perm:Zs a (i+1) f g
 lo:a≤j
 hi:j≤i
 rest:∀ p q,a≤p→p<q→q≤i→p≠j→q≠j→lt (g p) (g q)
 above:∀ q,j<q→q≤i→lt (g j) (g q)
 later:∀ p,a≤p→p≤i→p≠j→pos (g p)<pos (g j)
theorem Wc.start {a i:Nat} {f:Nat→α} (hai:a≤i) (hs:ZO lt a i f) (hp:∀ p,a≤p→p<i→pos (f p)<pos (f i)):Wc lt pos a i i f f :=
 ⟨Zs.refl _ _ _,hai,Nat.le_refl _,fun p q h1 h2 h3 h4 h5=>hs p q h1 h2 (by omega),fun q h1 h2=>by omega,fun p h1 h2 h3=>hp p h1 (by omega)⟩
theorem Wc.down {a i j:Nat} {f g:Nat→α} (h:Wc lt pos a i (j+1) f g) (haj:a≤j) (hlt:lt (g (j+1)) (g j)):Wc lt pos a i j f (Yk g (j+1) j):=by
 have hi:=h.hi
 have e0:Yk g (j+1) j j=g (j+1):=by simp[Yk]
 have e1:Yk g (j+1) j (j+1)=g j:=by simp[Yk]
 have eo:∀ t,t≠j→t≠j+1→Yk g (j+1) j t=g t:=fun t h1 h2=>by simp[Yk,h1,h2]
 refine ⟨h.perm.trans (Zs.swap g ⟨by omega,by omega⟩ ⟨by omega,by omega⟩),haj,by omega,fun p q h1 h2 h3 h4 h5=>?_,fun q h1 h2=>?_,fun p h1 h2 h3=>?_⟩
 ·by_cases hp:p=j+1
  ·subst hp
   rw[e1,eo q h5 (by omega)]
   exact h.rest j q haj (by omega) h3 (by omega) (by omega)
  ·by_cases hq:q=j+1
   ·subst hq
    rw[e1,eo p h4 hp]
    exact h.rest p j h1 (by omega) (by omega) (by omega) (by omega)
   ·rw[eo p h4 hp,eo q h5 hq]
    exact h.rest p q h1 h2 h3 hp hq
 ·rw[e0]
  by_cases hq:q=j+1
  ·subst hq;rw[e1];exact hlt
  ·rw[eo q (by omega) hq];exact h.above q (by omega) h2
 ·rw[e0]
  by_cases hp:p=j+1
  ·subst hp;rw[e1];exact h.later j haj (by omega) (by omega)
  ·rw[eo p h3 hp];exact h.later p h1 h2 hp
theorem Wc.done {a i j:Nat} {f g:Nat→α} (R:XX lt pos cf) (h:Wc lt pos a i j f g) (hst:j=a∨¬ lt (g j) (g (j - 1))):ZO lt a (i+1) g:=by
 have hlo:=h.lo
 have hbelow:∀ p,a≤p→p<j→lt (g p) (g j):=fun p h1 h2=>by
  have hl:lt (g (j - 1)) (g j):=by
   rcases hst with e|hn
   ·omega
   ·have:=h.later (j - 1) (by omega) (by have:=h.hi;omega) (by omega)
    rcases R.total (g j) (g (j - 1)) (by omega) with t|t
    ·exact absurd t hn
    ·exact t
  by_cases hp:p=j - 1
  ·rw[hp];exact hl
  ·exact R.trans _ _ _ (h.rest p (j - 1) h1 (by omega) (by have:=h.hi;omega) (by omega) (by omega)) hl
 intro p q h1 h2 h3
 by_cases hp:p=j
 ·subst hp;exact h.above q h2 (by omega)
 ·by_cases hq:q=j
  ·subst hq;exact hbelow p h1 h2
  ·exact h.rest p q h1 h2 (by omega) hp hq
def YU (f:Nat→α) (a k:Nat):Nat→α:=fun t=>if a≤t∧t<k then f (t+1) else if t=k then f a else f t
theorem QG (f:Nat→α) (a:Nat):YU f a a=f:=by
 funext t;unfold YU;rw[if_neg (by omega)];split
 ·rename_i h;rw[h]
 ·rfl
theorem Z0h (f:Nat→α) (a k:Nat) (h:a≤k):Yk (YU f a k) k (k+1)=YU f a (k+1):=by
 funext t
 unfold Yk YU
 by_cases h1:t=k
 ·subst h1;rw[if_pos rfl,if_neg (by omega),if_neg (by omega),if_pos (by omega)]
 ·by_cases h2:t=k+1
  ·subst h2;rw[if_neg (by omega),if_pos rfl,if_neg (by omega),if_pos rfl,if_neg (by omega),if_pos rfl]
  ·rw[if_neg h1,if_neg h2]
   by_cases h3:a≤t∧t<k
   ·rw[if_pos h3,if_pos (by omega)]
   ·rw[if_neg h3,if_neg h1,if_neg (by omega),if_neg h2]
theorem Z0F (f:Nat→α) {a k lo hi:Nat} (h:a≤k) (h1:lo≤a) (h2:k<hi):Zs lo hi f (YU f a k):=by
 refine ⟨fun t=>if a≤t∧t<k then t+1 else if t=k then a else t,fun t=>if t=a then k else if a<t∧t≤k then t - 1 else t,fun i=>?_,fun i=>?_,fun i hi=>?_,fun i=>?_⟩
 ·simp only;(repeat' split) <;> omega
 ·simp only;(repeat' split) <;> omega
 ·simp only;rw[if_neg (by omega),if_neg (by omega)]
 ·unfold YU;simp only;split
  ·rfl
  ·split <;> rfl
def YQ (f:Nat→α) (m k:Nat):Nat→α:=fun t=>if k<t∧t≤m then f (t - 1) else if t=k then f m else f t
theorem Z01 (f:Nat→α) (m:Nat):YQ f m m=f:=by
 funext t;unfold YQ;rw[if_neg (by omega)];split
 ·rename_i h;rw[h]
 ·rfl
theorem Z0f (f:Nat→α) (m k:Nat) (h:k+1≤m):Yk (YQ f m (k+1)) (k+1) k=YQ f m k:=by
 funext t
 unfold Yk YQ
 by_cases h1:t=k+1
 ·subst h1;rw[if_pos rfl,if_neg (by omega),if_neg (by omega),if_pos (by omega)];rfl
 ·by_cases h2:t=k
  ·subst h2;rw[if_neg (by omega),if_pos rfl,if_neg (by omega),if_pos rfl,if_neg (by omega),if_pos rfl]
  ·rw[if_neg h1,if_neg h2]
   by_cases h3:k+1<t∧t≤m
   ·rw[if_pos h3,if_pos (by omega)]
   ·rw[if_neg h3,if_neg h1,if_neg (by omega),if_neg h2]
theorem Z0H (f:Nat→α) {m k lo hi:Nat} (h:k≤m) (h1:lo≤k) (h2:m<hi):Zs lo hi f (YQ f m k):=by
 refine ⟨fun t=>if k<t∧t≤m then t - 1 else if t=k then m else t,fun t=>if t=m then k else if k≤t∧t<m then t+1 else t,fun i=>?_,fun i=>?_,fun i hi=>?_,fun i=>?_⟩
 ·simp only;(repeat' split) <;> omega
 ·simp only;(repeat' split) <;> omega
 ·simp only;rw[if_neg (by omega),if_neg (by omega)]
 ·unfold YQ;simp only;split
  ·rfl
  ·split <;> rfl
def Xi (f:Nat→α) (a b n:Nat):Nat→α:=fun t=>if a≤t∧t<a+n then f (t - a+b) else if b≤t∧t<b+n then f (t - b+a) else f t
theorem QI (f:Nat→α) (a b:Nat):Xi f a b 0=f:=by
 funext t;unfold Xi;rw[if_neg (by omega),if_neg (by omega)]
theorem Z0g (f:Nat→α) {a b n:Nat} (h:a+n<b):Yk (Xi f a b n) (a+n) (b+n)=Xi f a b (n+1):=by
 funext t
 unfold Yk Xi
 by_cases h1:t=a+n
 ·subst h1
  rw[if_pos rfl,if_neg (by omega),if_neg (by omega),if_pos (by omega)]
  congr 1;omega
 ·by_cases h2:t=b+n
  ·subst h2
   rw[if_neg h1,if_pos rfl,if_neg (by omega),if_neg (by omega),if_neg (by omega),if_pos (by omega)]
   congr 1;omega
  ·rw[if_neg h1,if_neg h2]
   by_cases h3:a≤t∧t<a+n
   ·rw[if_pos h3,if_pos (by omega)]
   ·rw[if_neg h3,if_neg (show ¬ (a≤t∧t<a+(n+1)) by omega)]
    by_cases h4:b≤t∧t<b+n
    ·rw[if_pos h4,if_pos (by omega)]
    ·rw[if_neg h4,if_neg (by omega)]
def Ys (f:Nat→α) (a m b:Nat):Nat→α:=fun t=>if a≤t∧t<a+(b - m) then f (t+(m - a)) else if a+(b - m)≤t∧t<b then f (t - (b - m)) else f t
theorem Z1z (f:Nat→α) {a m b lo hi:Nat} (h1:a≤m) (h2:m≤b) (h3:lo≤a) (h4:b≤hi):Zs lo hi f (Ys f a m b):=by
 refine ⟨fun t=>if a≤t∧t<a+(b - m) then t+(m - a) else if a+(b - m)≤t∧t<b then t - (b - m) else t,fun t=>if a≤t∧t<m then t+(b - m) else if m≤t∧t<b then t - (m - a) else t,fun i=>?_,fun i=>?_,fun i hi=>?_,fun i=>?_⟩
 ·simp only;(repeat' split) <;> omega
 ·simp only;(repeat' split) <;> omega
 ·simp only;rw[if_neg (by omega),if_neg (by omega)]
 ·unfold Ys;simp only;split
  ·rfl
  ·split <;> rfl
theorem Z3q (f:Nat→α) {m i j:Nat} (hi:i≤m) (hij:j<i):Ys (Xi f (m - i) m j) (m - (i - j)) m (m+j)=Ys f (m - i) m (m+j):=by
 funext t
 have e1:m+j - m=j:=by omega
 have e2:m - (m - (i - j))=i - j:=by omega
 have e3:m - (m - i)=i:=by omega
 unfold Ys Xi
 simp only[e1,e2,e3]
 by_cases c1:t<m - i
 ·rw[if_neg (by omega),if_neg (by omega),if_neg (by omega),if_neg (by omega),if_neg (by omega),if_neg (by omega)]
 ·by_cases c2:t<m - i+j
  ·rw[if_neg (by omega),if_neg (by omega),if_pos (by omega),if_pos (by omega)]
   congr 1;omega
  ·by_cases c3:t<m - i+j+j
   ·rw[if_pos (by omega),if_neg (by omega),if_pos (by omega),if_neg (by omega),if_pos (by omega)]
    congr 1;omega
   ·by_cases c4:t<m+j
    ·rw[if_neg (by omega),if_pos (by omega),if_neg (by omega),if_neg (by omega),if_neg (by omega),if_pos (by omega)]
    ·rw[if_neg (by omega),if_neg (by omega),if_neg (by omega),if_neg (by omega),if_neg (by omega),if_neg (by omega)]
theorem Z3t (f:Nat→α) {m i j:Nat} (hi:i≤m) (hij:i<j):Ys (Xi f (m - i) (m+j - i) i) (m - i) m (m+(j - i))=Ys f (m - i) m (m+j):=by
 funext t
 have e1:m+(j - i) - m=j - i:=by omega
 have e2:m - (m - i)=i:=by omega
 have e3:m+j - m=j:=by omega
 unfold Ys Xi
 simp only[e1,e2,e3]
 by_cases c1:t<m - i
 ·rw[if_neg (by omega),if_neg (by omega),if_neg (by omega),if_neg (by omega),if_neg (by omega),if_neg (by omega)]
 ·by_cases c2:t<m - i+(j - i)
  ·rw[if_pos (by omega),if_neg (by omega),if_neg (by omega),if_pos (by omega)]
  ·by_cases c3:t<m+(j - i)
   ·rw[if_neg (by omega),if_pos (by omega),if_pos (by omega),if_pos (by omega)]
    congr 1;omega
   ·by_cases c4:t<m+j
    ·rw[if_neg (by omega),if_neg (by omega),if_neg (by omega),if_pos (by omega),if_neg (by omega),if_pos (by omega)]
     congr 1;omega
    ·rw[if_neg (by omega),if_neg (by omega),if_neg (by omega),if_neg (by omega),if_neg (by omega),if_neg (by omega)]
theorem Z3p (f:Nat→α) {m i:Nat} (hi:i≤m):Xi f (m - i) m i=Ys f (m - i) m (m+i):=by
 funext t
 have e1:m+i - m=i:=by omega
 have e2:m - (m - i)=i:=by omega
 unfold Ys Xi
 simp only[e1,e2]
 by_cases c1:t<m - i
 ·rw[if_neg (by omega),if_neg (by omega),if_neg (by omega),if_neg (by omega)]
 ·by_cases c2:t<m
  ·rw[if_pos (by omega),if_pos (by omega)]
   congr 1;omega
  ·by_cases c3:t<m+i
   ·rw[if_neg (by omega),if_pos (by omega),if_neg (by omega),if_pos (by omega)]
    congr 1;omega
   ·rw[if_neg (by omega),if_neg (by omega),if_neg (by omega),if_neg (by omega)]
end
section
variable {α:Type} {lt:α→α→Prop} {pos:α→Nat} {cf:α→α→Int}
structure Y0 (lt:α→α→Prop) (pos:α→Nat) (a m b:Nat) (f:Nat→α):Prop where
 am:a<m
 mb:m<b
 left:ZO lt a m f
 right:ZO lt m b f
 apart:∀ i j,a≤i→i<m→m≤j→j<b→pos (f i)<pos (f j)
theorem Z3l (f:Nat→α) {s m e:Nat} (h1:s≤m) (h2:m≤e) (h:s=m∨e=m):Ys f s m e=f:=by
 funext t
 unfold Ys
 split
 ·congr 1;omega
 ·split
  ·congr 1;omega
  ·rfl
theorem Z2w (R:XX lt pos cf) {a b i:Nat} {f:Nat→α} (h:Y0 lt pos a (a+1) b f) (hi1:a+1≤i) (hi2:i≤b) (q1:i=a+1∨lt (f (i - 1)) (f a)) (q2:i=b∨¬ lt (f i) (f a)) :
  ZO lt a b (YU f a (i - 1))∧Zs a b f (YU f a (i - 1)):=by
 have hmb:=h.mb
 refine ⟨?_,Z0F f (by omega) (Nat.le_refl _) (by omega)⟩
 have below:∀ t,a+1≤t→t<i→lt (f t) (f a):=fun t h1 h2=>by
  rcases q1 with e|hl
  ·omega
  ·by_cases ht:t=i - 1
   ·rw[ht];exact hl
   ·exact R.trans _ _ _ (h.right t (i - 1) h1 (by omega) (by omega)) hl
 have above:∀ t,i≤t→t<b→lt (f a) (f t):=fun t h1 h2=>by
  have hl:lt (f a) (f i):=by
   rcases q2 with e|hn
   ·omega
   ·have:=h.apart a i (Nat.le_refl _) (by omega) hi1 (by omega)
    rcases R.total (f a) (f i) (by omega) with t|t
    ·exact t
    ·exact absurd t hn
  by_cases ht:t=i
  ·rw[ht];exact hl
  ·exact R.trans _ _ _ hl (h.right i t hi1 (by omega) h2)
 have e1:∀ t,a≤t→t<i - 1→YU f a (i - 1) t=f (t+1):=fun t h1 h2=>by unfold YU;rw[if_pos ⟨h1,h2⟩]
 have e2:YU f a (i - 1) (i - 1)=f a:=by unfold YU;rw[if_neg (by omega),if_pos rfl]
 have e3:∀ t,i≤t→YU f a (i - 1) t=f t:=fun t h1=>by unfold YU;rw[if_neg (by omega),if_neg (by omega)]
 intro p q h1 h2 h3
 by_cases hp:p<i - 1
 ·rw[e1 p h1 hp]
  by_cases hq:q<i - 1
  ·rw[e1 q (by omega) hq];exact h.right (p+1) (q+1) (by omega) (by omega) (by omega)
  ·by_cases hq2:q=i - 1
   ·rw[hq2,e2];exact below (p+1) (by omega) (by omega)
   ·rw[e3 q (by omega)];exact h.right (p+1) q (by omega) (by omega) h3
 ·by_cases hp2:p=i - 1
  ·rw[hp2,e2,e3 q (by omega)];exact above q (by omega) h3
  ·rw[e3 p (by omega),e3 q (by omega)];exact h.right p q (by omega) h2 h3
theorem Z1e (R:XX lt pos cf) {a m i:Nat} {f:Nat→α} (h:Y0 lt pos a m (m+1) f) (hi1:a≤i) (hi2:i≤m) (q1:i=a∨¬ lt (f m) (f (i - 1))) (q2:i=m∨lt (f m) (f i)) :
  ZO lt a (m+1) (YQ f m i)∧Zs a (m+1) f (YQ f m i):=by
 have ham:=h.am
 refine ⟨?_,Z0H f hi2 hi1 (by omega)⟩
 have below:∀ t,a≤t→t<i→lt (f t) (f m):=fun t h1 h2=>by
  have hl:lt (f (i - 1)) (f m):=by
   rcases q1 with e|hn
   ·omega
   ·have:=h.apart (i - 1) m (by omega) (by omega) (Nat.le_refl _) (by omega)
    rcases R.total (f (i - 1)) (f m) (by omega) with t|t
    ·exact t
    ·exact absurd t hn
  by_cases ht:t=i - 1
  ·rw[ht];exact hl
  ·exact R.trans _ _ _ (h.left t (i - 1) h1 (by omega) (by omega)) hl
 have above:∀ t,i≤t→t<m→lt (f m) (f t):=fun t h1 h2=>by
  rcases q2 with e|hl
  ·omega
  ·by_cases ht:t=i
   ·rw[ht];exact hl
   ·exact R.trans _ _ _ hl (h.left i t hi1 (by omega) h2)
 have e1:∀ t,t<i→YQ f m i t=f t:=fun t h1=>by unfold YQ;rw[if_neg (by omega),if_neg (by omega)]
 have e2:YQ f m i i=f m:=by unfold YQ;rw[if_neg (by omega),if_pos rfl]
 have e3:∀ t,i<t→t≤m→YQ f m i t=f (t - 1):=fun t h1 h2=>by unfold YQ;rw[if_pos ⟨h1,h2⟩]
 intro p q h1 h2 h3
 by_cases hp:p<i
 ·rw[e1 p hp]
  by_cases hq:q<i
  ·rw[e1 q hq];exact h.left p q h1 h2 (by omega)
  ·by_cases hq2:q=i
   ·rw[hq2,e2];exact below p h1 hp
   ·rw[e3 q (by omega) (by omega)]
    by_cases hpq:p=q - 1
    ·omega
    ·exact h.left p (q - 1) h1 (by omega) (by omega)
 ·by_cases hp2:p=i
  ·rw[hp2,e2,e3 q (by omega) (by omega)];exact above (q - 1) (by omega) (by omega)
  ·rw[e3 p (by omega) (by omega),e3 q (by omega) (by omega)];exact h.left (p - 1) (q - 1) (by omega) (by omega) (by omega)
structure X6 (lt:α→α→Prop) (a m b mid s e:Nat) (f:Nat→α):Prop where
 lea:a≤s
 sm:s≤m
 me:m≤e
 eb:e≤b
 sum:s+e=mid+m
 lo:s=a∨e=b∨¬ lt (f e) (f (s - 1))
 hi:s=m∨e=m∨lt (f (e - 1)) (f s)
section
variable {a m b mid s e:Nat} {f:Nat→α}
theorem X6.g1 (c:X6 lt a m b mid s e f) {t:Nat} (h1:s≤t) (h2:t<mid):Ys f s m e t=f (t+(m - s)):=by
 have:=c.sum;have:=c.sm;have:=c.me
 unfold Ys;rw[if_pos (by omega)]
theorem X6.g2 (c:X6 lt a m b mid s e f) {t:Nat} (h1:mid≤t) (h2:t<e):Ys f s m e t=f (t - (e - m)):=by
 have:=c.sum;have:=c.sm;have:=c.me
 unfold Ys;rw[if_neg (by omega),if_pos (by omega)]
theorem X6.g0 (c:X6 lt a m b mid s e f) {t:Nat} (h:t<s∨e≤t):Ys f s m e t=f t:=by
 have:=c.sum;have:=c.sm;have:=c.me
 unfold Ys;rw[if_neg (by omega),if_neg (by omega)]
theorem X6.cross (R:XX lt pos cf) (h:Y0 lt pos a m b f) (c:X6 lt a m b mid s e f) {i j:Nat} (h1:a≤i) (h2:i<mid) (h3:mid≤j) (h4:j<b):lt (Ys f s m e i) (Ys f s m e j):=by
 have hs:=c.sum;have hsm:=c.sm;have hme:=c.me;have has:=c.lea;have heb:=c.eb
 have ham:=h.am;have hmb:=h.mb
 have lr:∀ p q,a≤p→p<s→e≤q→q<b→lt (f p) (f q):=fun p q k1 k2 k3 k4=>by
  have hl:lt (f (s - 1)) (f e):=by
   rcases c.lo with e1|e1|hn
   ·omega
   ·omega
   ·have:=h.apart (s - 1) e (by omega) (by omega) hme (by omega)
    rcases R.total (f (s - 1)) (f e) (by omega) with t|t
    ·exact t
    ·exact absurd t hn
  have hl2:lt (f p) (f e):=by
   by_cases hp:p=s - 1
   ·rw[hp];exact hl
   ·exact R.trans _ _ _ (h.left p (s - 1) k1 (by omega) (by omega)) hl
  by_cases hq:q=e
  ·rw[hq];exact hl2
  ·exact R.trans _ _ _ hl2 (h.right e q hme (by omega) k4)
 have rl:∀ p q,m≤p→p<e→s≤q→q<m→lt (f p) (f q):=fun p q k1 k2 k3 k4=>by
  have hl:lt (f (e - 1)) (f s):=by
   rcases c.hi with e1|e1|hl
   ·omega
   ·omega
   ·exact hl
  have hl2:lt (f p) (f s):=by
   by_cases hp:p=e - 1
   ·rw[hp];exact hl
   ·exact R.trans _ _ _ (h.right p (e - 1) k1 (by omega) (by omega)) hl
  by_cases hq:q=s
  ·rw[hq];exact hl2
  ·exact R.trans _ _ _ hl2 (h.left s q has (by omega) k4)
 by_cases hi:i<s
 ·rw[c.g0 (.inl hi)]
  by_cases hj:j<e
  ·rw[c.g2 h3 hj];exact h.left i _ h1 (by omega) (by omega)
  ·rw[c.g0 (.inr (by omega))];exact lr i j h1 hi (by omega) h4
 ·rw[c.g1 (by omega) h2]
  by_cases hj:j<e
  ·rw[c.g2 h3 hj];exact rl _ _ (by omega) (by omega) (by omega) (by omega)
  ·rw[c.g0 (.inr (by omega))];exact h.right _ j (by omega) (by omega) h4
theorem X6.pre1 (h:Y0 lt pos a m b f) (c:X6 lt a m b mid s e f) (h1:a<s) (h2:s<mid):Y0 lt pos a s mid (Ys f s m e):=by
 have hs:=c.sum;have hsm:=c.sm;have hme:=c.me;have has:=c.lea;have heb:=c.eb
 refine ⟨h1,h2,fun i j k1 k2 k3=>?_,fun i j k1 k2 k3=>?_,fun i j k1 k2 k3 k4=>?_⟩
 ·rw[c.g0 (.inl (by omega)),c.g0 (.inl k3)];exact h.left i j k1 k2 (by omega)
 ·rw[c.g1 k1 (by omega),c.g1 (by omega) k3];exact h.right _ _ (by omega) (by omega) (by omega)
 ·rw[c.g0 (.inl k2),c.g1 k3 k4];exact h.apart _ _ k1 (by omega) (by omega) (by omega)
theorem X6.pre2 (h:Y0 lt pos a m b f) (c:X6 lt a m b mid s e f) (h1:mid<e) (h2:e<b):Y0 lt pos mid e b (Ys f s m e):=by
 have hs:=c.sum;have hsm:=c.sm;have hme:=c.me;have has:=c.lea;have heb:=c.eb
 refine ⟨h1,h2,fun i j k1 k2 k3=>?_,fun i j k1 k2 k3=>?_,fun i j k1 k2 k3 k4=>?_⟩
 ·rw[c.g2 k1 (by omega),c.g2 (by omega) k3];exact h.left _ _ (by omega) (by omega) (by omega)
 ·rw[c.g0 (.inr k1),c.g0 (.inr (by omega))];exact h.right _ _ (by omega) (by omega) (by omega)
 ·rw[c.g2 k1 k2,c.g0 (.inr k3)];exact h.apart _ _ (by omega) (by omega) (by omega) k4
theorem X6.sort1 (h:Y0 lt pos a m b f) (c:X6 lt a m b mid s e f) (hn:¬ (a<s∧s<mid)):ZO lt a mid (Ys f s m e):=by
 have hs:=c.sum;have hsm:=c.sm;have hme:=c.me;have has:=c.lea;have heb:=c.eb
 intro i j k1 k2 k3
 by_cases hsa:s=a
 ·rw[c.g1 (by omega) (by omega),c.g1 (by omega) k3];exact h.right _ _ (by omega) (by omega) (by omega)
 ·rw[c.g0 (.inl (by omega)),c.g0 (.inl (by omega))];exact h.left i j k1 k2 (by omega)
theorem X6.sort2 (h:Y0 lt pos a m b f) (c:X6 lt a m b mid s e f) (hn:¬ (mid<e∧e<b)):ZO lt mid b (Ys f s m e):=by
 have hs:=c.sum;have hsm:=c.sm;have hme:=c.me;have has:=c.lea;have heb:=c.eb
 intro i j k1 k2 k3
 by_cases hb:e=b
 ·rw[c.g2 k1 (by omega),c.g2 (by omega) (by omega)];exact h.left _ _ (by omega) (by omega) (by omega)
 ·rw[c.g0 (.inr (by omega)),c.g0 (.inr (by omega))];exact h.right _ _ (by omega) (by omega) k3
end
theorem Q9 {a mid b:Nat} {g h1 h2:Nat→α} (cross:∀ i j,a≤i→i<mid→mid≤j→j<b→lt (g i) (g j)) (p1:Zs a mid g h1) (s1:ZO lt a mid h1) (p2:Zs mid b h1 h2) (s2:ZO lt mid b h2):ZO lt a b h2:=by
 intro i j k1 k2 k3
 by_cases hi:i<mid
 ·have ei:h2 i=h1 i:=p2.out (.inl hi)
  by_cases hj:j<mid
  ·rw[ei,p2.out (.inl hj)];exact s1 i j k1 k2 hj
  ·obtain ⟨i',a1,a2,a3⟩:=p1.from k1 hi
   obtain ⟨j',b1,b2,b3⟩:=p2.from (show mid≤j by omega) k3
   rw[ei,a3,b3,p1.out (.inr b1)]
   exact cross i' j' a1 a2 b1 b2
 ·exact s2 i j (by omega) k2 k3
end
section
variable {α:Type} {lt:α→α→Prop} {f g h:Nat→α}
def Wh (lt:α→α→Prop) (f:Nat→α) (a b:Nat) (g:Nat→α):Prop:=ZO lt a b g∧∀ i,a≤i→i<b→∃ j,a≤j∧j<b∧g i=f j
theorem Wh.congr {a b:Nat} (H:Wh lt f a b g) (hg:∀ i,a≤i→i<b→h i=g i):Wh lt f a b h :=
 ⟨H.1.congr hg,fun i h1 h2=>by rw[hg i h1 h2];exact H.2 i h1 h2⟩
inductive Xu (lt:α→α→Prop) (f:Nat→α) (s n:Nat) (g:Nat→α):Nat→Prop
 | done {a:Nat} (h:n≤a):Xu lt f s n g a
 | step {a:Nat} (h:a<n) (r:Wh lt f a (min (a+s) n) g) (k:Xu lt f s n g (a+s)):Xu lt f s n g a
inductive Wf (lt:α→α→Prop) (f:Nat→α) (t:Nat) (g:Nat→α):Nat→Prop
 | zero:Wf lt f t g 0
 | snoc {a:Nat} (k:Wf lt f t g a) (r:Wh lt f a (a+t) g):Wf lt f t g (a+t)
theorem Xu.congr {s n a:Nat} (H:Xu lt f s n g a):(∀ i,a≤i→i<n→h i=g i)→Xu lt f s n h a:=by
 induction H with
 | done hn=>exact fun _=>.done hn
 | step hn r k ih=>exact fun hg=>.step hn (r.congr fun i h1 h2=>hg i h1 (by omega)) (ih fun i h1 h2=>hg i (by omega) h2)
theorem Wf.congr {t a:Nat} (H:Wf lt f t g a):(∀ i,i<a→h i=g i)→Wf lt f t h a:=by
 induction H with
 | zero=>exact fun _=>.zero
 | snoc k r ih=>exact fun hg=>.snoc (ih fun i h1=>hg i (by omega)) (r.congr fun i h1 h2=>hg i h2)
theorem Xu.first {s n a:Nat} (H:Xu lt f s n g a) (ha:a<n):Wh lt f a (min (a+s) n) g∧Xu lt f s n g (a+s):=by
 cases H with
 | done hn=>omega
 | step hn r k=>exact ⟨r,k⟩
theorem Wf.runs {t n a:Nat} (H:Wf lt f t g a):a≤n→Xu lt f t n g a→Xu lt f t n g 0:=by
 induction H with
 | zero=>exact fun _ r=>r
 | @snoc a k r ih =>
  intro hn hr
  by_cases ht:t=0
  ·subst ht;exact ih (by omega) hr
  ·exact ih (by omega) (.step (by omega) (by rw[Nat.min_eq_left (by omega)];exact r) hr)
theorem Xu.all {s n:Nat} (H:Xu lt f s n g 0) (hs:n≤s):ZO lt 0 n g:=by
 by_cases hn:0<n
 ·have:=(H.first hn).1.1
  rwa [Nat.zero_add,Nat.min_eq_right hs] at this
 ·exact fun i j _ h1 h2=>by omega
theorem T8 {pos:α→Nat} {a m b n:Nat} (am:a<m) (mb:m<b) (bn:b≤n) (hp:∀ p q,p<q→q<n→pos (f p)<pos (f q)) (r1:Wh lt f a m g) (r2:Wh lt f m b g):Y0 lt pos a m b g :=
 ⟨am,mb,r1.1,r2.1,fun i j h1 h2 h3 h4=>by
  obtain ⟨p,p1,p2,e1⟩:=r1.2 i h1 h2
  obtain ⟨q,q1,q2,e2⟩:=r2.2 j h3 h4
  rw[e1,e2];exact hp p q (by omega) (by omega)⟩
theorem Z1P {a m b:Nat} (am:a≤m) (mb:m≤b) (r1:Wh lt f a m g) (r2:Wh lt f m b g) (p:Zs a b g h) (s:ZO lt a b h):Wh lt f a b h :=
 ⟨s,fun i h1 h2=>by
  obtain ⟨j,j1,j2,e⟩:=p.from h1 h2
  rw[e]
  by_cases hj:j<m
  ·obtain ⟨q,q1,q2,e2⟩:=r1.2 j j1 hj
   exact ⟨q,q1,by omega,e2⟩
  ·obtain ⟨q,q1,q2,e2⟩:=r2.2 j (by omega) j2
   exact ⟨q,by omega,q2,e2⟩⟩
theorem Tv {a b:Nat} (hg:∀ i,a≤i→i<b→g i=f i) (p:Zs a b g h) (s:ZO lt a b h):Wh lt f a b h :=
 ⟨s,fun i h1 h2=>by
  obtain ⟨j,j1,j2,e⟩:=p.from h1 h2
  exact ⟨j,j1,j2,e.trans (hg j j1 j2)⟩⟩
theorem Xu.last {s t n a:Nat} (H:Xu lt f s n g a) (hst:s≤t) (hn:n≤a+s):Xu lt f t n g a:=by
 by_cases ha:a<n
 ·have:=(H.first ha).1
  rw[Nat.min_eq_right hn] at this
  exact .step ha (by rw[Nat.min_eq_right (by omega)];exact this) (.done (by omega))
 ·exact .done (by omega)
theorem Zs.list {n:Nat} (H:Zs 0 n f g):((List.range n).map g).Perm ((List.range n).map f):=by
 obtain ⟨s,t,st,ts,so,hg⟩:=H
 have e:(List.range n).map g=((List.range n).map s).map f:=by rw[List.map_map];exact List.map_congr_left fun i _=>hg i
 rw[e]
 refine List.Perm.map f ((List.perm_ext_iff_of_nodup ?_ List.nodup_range).2 fun i=>?_)
 ·refine List.pairwise_map.2 (List.nodup_range.imp fun {a b} hne h=>hne ?_)
  have:=congrArg t h
  rwa [ts,ts] at this
 ·have inn:∀ j,j<n→s j<n:=fun j hj=>Nat.lt_of_not_le fun hn=>by
   have h1:=so (s j) (.inr hn)
   have h2:=congrArg t h1
   rw[ts,ts] at h2
   omega
  simp only[List.mem_map,List.mem_range]
  constructor
  ·rintro ⟨j,hj,rfl⟩;exact inn j hj
  ·intro hi
   refine ⟨t i,?_,st i⟩
   refine Nat.lt_of_not_le fun hn=>?_
   have h1:=so (t i) (.inr hn)
   rw[st] at h1
   omega
theorem ZO.list {n:Nat} (H:ZO lt 0 n g):((List.range n).map g).Pairwise lt:=by
 rw[List.pairwise_map]
 refine List.pairwise_iff_getElem.2 fun i j hi hj hij=>?_
 simp only[List.length_range] at hi hj
 simp only[List.getElem_range]
 exact H i j (Nat.zero_le _) hij hj
end
end Go.Proofs.YtlgipkemoldckaaGreatDoor
namespace Go.Proofs.YtlgipkemoldckaaGreatDoor
open Go
section
variable {P:Program} {ops:Array Oper} {Q:Exit→Act→World→Prop} {md:Region.Mode} {S:World→Prop}
theorem Z9 {i:Nat} {oi:Oper} {d:Option Tmp} {v:Value} {fuel:Nat} {listed:Array Bool} {a:Act} {w:World} (hi:ops[i]?=some oi) (hd:oi.dst=d)
  (hs:Region.noSelect ops=true) (hf:Region.free md ops listed i=true) (hr:(Region.ready md ops listed).contains i=true)
  (hQ:∀ c a w,Q (.panic c) (a.put d v) w→Q (.panic c) a w) (hy:YieldsIf P ops S oi v a) (hS:S w)
  (h:wpAnyH P md ops Q S fuel (listed.setIfInBounds i true) (a.put d v) w):wpAnyH P md ops Q S (fuel+1) listed a w:=by
 subst hd
 exact wpAnyH_take hi hs hf hr hQ hy hS h
theorem VH {i:Nat} {o:Oper} {d:Option Tmp} {f:FuncId} {args:Array Value} {fuel:Nat} {listed:Array Bool} {a:Act} {w w':World} (hr:Region.ready md ops listed=[i]) (ho:ops[i]?=some o) (hd:o.dst=d) (hw:Region.wanted o (yielded ops a.tmps)=true)
  (hv:(execOp a.eval o).run P w=.ok (.enter f args) w')
  (h:Calls P f args w' fun e w''=>∃ v,e=.returned v∧S w''∧wpAnyH P md ops Q S fuel (listed.setIfInBounds i true) (a.put d v) w''):wpAnyH P md ops Q S (fuel+1) listed a w:=by
 subst hd
 exact wpAnyH_all hr (by simp) (fun j hj=>by
  obtain rfl:=List.mem_singleton.1 hj
  exact wpOp_step ho fun K' hK=>by
   rw[if_pos hw,Oper.wp,hv,Oper.upon_enter]
   refine Calls.mono h ?_
   rintro e w'' ⟨v,rfl,h1,h2⟩
   exact hK _ _ ⟨h1,h2⟩)
end
end Go.Proofs.YtlgipkemoldckaaGreatDoor
namespace Go.Proofs.YtlgipkemoldckaaGreatDoor
open Go.RowKit
def YK (a b:ByteArray):Int:=if Op.bytesLess a.toList b.toList=true then -1 else if (a.toList == b.toList)=true then 0 else 1
theorem U8 (a b:ByteArray) (w:World) :
  Calls Tryz.prog 62 #[.string a,.string b] w fun e w'=>e=.returned (.int .i64 (YK a b))∧w=w':=by
 by_cases h1:Op.bytesLess a.toList b.toList=true
 ·go_enter Tryz.func62,Tryz.ntmps62
  go_wp2
  go_ret
  exact ⟨by simp[YK,h1],rfl⟩
 ·have h1:Op.bytesLess a.toList b.toList=false:=by simpa using h1
  by_cases h2:(a.toList == b.toList)=true
  ·go_enter Tryz.func62,Tryz.ntmps62
   go_wp2
   go_ret
   exact ⟨by simp[YK,h1,h2],rfl⟩
  ·have h2:(a.toList == b.toList)=false:=by simpa using h2
   go_enter Tryz.func62,Tryz.ntmps62
   go_wp2
   go_ret
   exact ⟨by simp[YK,h1,h2],rfl⟩
theorem ltB (a b:ByteArray):decide (YK a b<0)=decide (a.toList<b.toList):=by
 unfold YK
 rw[bytesLess_eq]
 by_cases h:a.toList<b.toList
 ·simp[h]
 ·simp only[h,decide_false,Bool.false_eq_true,if_false]
  split <;> simp
theorem WI (a b:List UInt8) (h1:¬ a<b) (h2:¬ b<a):a=b:=List.le_antisymm h2 h1
section
variable {α κ:Type} {klt:κ→κ→Prop} {key:α→κ}
def ltT (klt:κ→κ→Prop) (key:α→κ) (p q:α × Nat):Prop:=klt (key p.1) (key q.1)∨(key p.1=key q.1∧p.2<q.2)
theorem RY {cf:α→α→Int} (irr:∀ a,¬ klt a a) (tr:∀ a b c,klt a b→klt b c→klt a c) (tot:∀ a b,klt a b∨a=b∨klt b a) (hcf:∀ x y,cf x y<0↔klt (key x) (key y)) :
  XX (ltT klt key) Prod.snd (fun x y:α × Nat=>cf x.1 y.1) where
 irrefl x h:=by
  rcases h with h|⟨_,h⟩
  ·exact irr _ h
  ·omega
 trans x y z h1 h2:=by
  rcases h1 with h1|⟨e1,h1⟩ <;> rcases h2 with h2|⟨e2,h2⟩
  ·exact .inl (tr _ _ _ h1 h2)
  ·exact .inl (by rw[←e2];exact h1)
  ·exact .inl (by rw[e1];exact h2)
  ·exact .inr ⟨e1.trans e2,by omega⟩
 total x y h:=by
  rcases tot (key x.1) (key y.1) with t|t|t
  ·exact .inl (.inl t)
  ·rcases Nat.lt_or_gt_of_ne h with h|h
   ·exact .inl (.inr ⟨t,h⟩)
   ·exact .inr (.inr ⟨t.symm,h⟩)
  ·exact .inr (.inl t)
 says x y h:=by
  rw[hcf]
  constructor
  ·exact .inl
  ·rintro (t|⟨_,t⟩)
   ·exact t
   ·omega
def Z0e [Inhabited α] (l:List α):Nat→α × Nat:=fun i=>(l[i]!,i)
theorem Z2M [Inhabited α] (l:List α):(List.range l.length).map (Z0e l)=l.zipIdx:=by
 refine List.ext_getElem (by simp) fun i h1 h2=>?_
 simp only[List.length_map,List.length_range] at h1
 simp[Z0e,h1]
def XN (klt:κ→κ→Prop) (key:α→κ) (l l':List α):Prop:=∃ G:List (α × Nat),G.Perm l.zipIdx∧G.Pairwise (ltT klt key)∧l'=G.map (·.1)
theorem XN.perm {l l':List α} (h:XN klt key l l'):l'.Perm l:=by
 obtain ⟨G,h1,_,rfl⟩:=h
 have:=h1.map (·.1)
 rwa [show l.zipIdx.map (·.1)=l from by simp] at this
end
instance:Inhabited Ch:=⟨⟨⟨0,0⟩,⟨0,0⟩,⟨#[]⟩⟩⟩
def YZ (c:Ch):List UInt8:=c.key.toList
section
variable {cap sz blk n:Nat}
end
def ZV (h:Zi):Prop:=∀ k c,h k=some c→c.block=k
theorem Z1I:ZV (fun _=>none):=fun k c h=>by cases h
theorem Z0J {h:Zi} (hk:ZV h) (c:Ch):ZV (Xp h c):=by
 cases ht:WH h c with
 | false=>rw[Ux ht];exact hk
 | true =>
  rw[Ua ht]
  intro k d hd
  by_cases e:k=c.block
  ·subst e;rw[Wl] at hd;cases hd;rfl
  ·rw[Xa _ _ e] at hd;exact hk k d hd
theorem Z0q (cs:List Ch):ZV (UI cs):=by
 have:∀ (cs:List Ch) (h:Zi),ZV h→ZV (cs.foldl Xp h):=fun cs=>by
  induction cs with
  | nil=>intro h ha;exact ha
  | cons c cs ih=>intro h ha;exact ih _ (Z0J ha c)
 exact this cs _ Z1I
theorem Tj:∀ (cs:List Ch) (h:Zi) (k:St) (c:Ch),cs.foldl Xp h k=some c→c∈cs∨h k=some c
 | [],h,k,c,e=>.inr e
 | d :: cs,h,k,c,e=>by
  rcases Tj cs (Xp h d) k c e with m|m
  ·exact .inl (List.mem_cons_of_mem _ m)
  ·cases ht:WH h d with
   | false=>rw[Ux ht] at m;exact .inr m
   | true =>
    rw[Ua ht] at m
    by_cases e:k=d.block
    ·subst e;rw[Wl] at m;cases m;exact .inl (List.mem_cons_self ..)
    ·rw[Xa _ _ e] at m;exact .inr m
def Zm (h:Zi) (l:List Ch):Prop:=(∀ c,c∈l↔h c.block=some c)∧l.Pairwise (fun a b=>ZI a.block b.block)
def Yx (a b:Ch):Prop:=YZ a<YZ b∨(YZ a=YZ b∧ZI a.block b.block)
def WF (h:Zi) (u:St) (l:List Ch):Prop:=(∀ c,c∈l↔h c.block=some c∧c.under=u)∧l.Pairwise Yx
theorem XO (a:Ch):¬ Yx a a:=by
 rintro (h|⟨_,h⟩)
 ·exact List.lt_irrefl _ h
 ·exact Zl _ h
theorem WR {a b c:Ch} (h:Yx a b) (k:Yx b c):Yx a c:=by
 rcases h with h|⟨e,h⟩ <;> rcases k with k|⟨e2,k⟩
 ·exact .inl (List.lt_trans h k)
 ·exact .inl (by rw[←e2];exact h)
 ·exact .inl (by rw[e];exact k)
 ·exact .inr ⟨e.trans e2,ZC h k⟩
theorem T4 (a b:Ch):Yx a b∨a.block=b.block∨Yx b a:=by
 by_cases h1:YZ a<YZ b
 ·exact .inl (.inl h1)
 ·by_cases h2:YZ b<YZ a
  ·exact .inr (.inr (.inl h2))
  ·have e:=WI _ _ h1 h2
   rcases Y5 a.block b.block with t|t|t
   ·exact .inl (.inr ⟨e,t⟩)
   ·exact .inr (.inl t)
   ·exact .inr (.inr (.inr ⟨e.symm,t⟩))
theorem Xy {α:Type} {R:α→α→Prop} (irr:∀ a,¬ R a a) (tr:∀ a b c,R a b→R b c→R a c):∀ {l l':List α},l.Pairwise R→l'.Pairwise R→(∀ x,x∈l↔x∈l')→l=l'
 | [],[],_,_,_=>rfl
 | [],y :: l',_,_,h=>absurd ((h y).2 (List.mem_cons_self ..)) (by simp)
 | x :: l,[],_,_,h=>absurd ((h x).1 (List.mem_cons_self ..)) (by simp)
 | x :: l,y :: l',h1,h2,h=>by
  rw[List.pairwise_cons] at h1 h2
  have e:x=y:=by
   rcases List.mem_cons.1 ((h x).1 (List.mem_cons_self ..)) with e|e
   ·exact e
   ·rcases List.mem_cons.1 ((h y).2 (List.mem_cons_self ..)) with e'|e'
    ·exact e'.symm
    ·exact absurd (tr _ _ _ (h2.1 x e) (h1.1 y e')) (irr _)
  subst e
  congr 1
  refine Xy irr tr h1.2 h2.2 fun z=>?_
  constructor
  ·intro hz
   rcases List.mem_cons.1 ((h z).1 (List.mem_cons_of_mem _ hz)) with e|e
   ·rw[e] at hz;exact absurd (h1.1 x hz) (irr _)
   ·exact e
  ·intro hz
   rcases List.mem_cons.1 ((h z).2 (List.mem_cons_of_mem _ hz)) with e|e
   ·rw[e] at hz;exact absurd (h2.1 x hz) (irr _)
   ·exact e
theorem Zm.unique {h:Zi} {l l':List Ch} (a:Zm h l) (b:Zm h l'):l=l' :=
 Xy (R:=fun a b:Ch=>ZI a.block b.block) (fun x=>Zl x.block) (fun _ _ _ h k=>ZC h k) a.2 b.2 fun c=>(a.1 c).trans (b.1 c).symm
theorem WF.unique {h:Zi} {u:St} {l l':List Ch} (a:WF h u l) (b:WF h u l'):l=l' :=
 Xy XO (fun _ _ _ h k=>WR h k) a.2 b.2 fun c=>(a.1 c).trans (b.1 c).symm
theorem Zm.length {cs:List Ch} {l:List Ch} (a:Zm (UI cs) l):l.length≤cs.length:=by
 have hn:l.Nodup:=a.2.imp fun {x y} h e=>by rw[e] at h;exact Zl _ h
 refine hn.length_le_of_subset fun c hc=>?_
 rcases Tj cs _ _ c ((a.1 c).1 hc) with m|m
 ·exact m
 ·cases m
theorem XQ {h:Zi}:∀ (m n:Nat) (u:St),Y6 h m u→Y6 h n u→m=n
 | 0,0,_,_,_=>rfl
 | 0,n+1,u,h1,⟨c,hc,_⟩=>by rw[show h u=none from h1] at hc;cases hc
 | m+1,0,u,⟨c,hc,_⟩,h2=>by rw[show h u=none from h2] at hc;cases hc
 | m+1,n+1,u,⟨c,hc,h1⟩,⟨d,hd,h2⟩=>by
  rw[hc] at hd;cases hd
  rw[XQ m n _ h1 h2]
theorem Sy {h:Zi} (hk:ZV h):∀ (m:Nat) (u:St),Y6 h m u→∃ l:List Ch,l.length=m∧l.Nodup∧∀ c∈l,h c.block=some c∧∃ j,j≤m∧Y6 h j c.block
 | 0,u,_=>⟨[],rfl,List.nodup_nil,fun c hc=>by simp at hc⟩
 | m+1,u,⟨c,hc,he⟩=>by
  obtain ⟨l,h1,h2,h3⟩:=Sy hk m c.under he
  have hb:c.block=u:=hk u c hc
  refine ⟨c :: l,by simp[h1],List.nodup_cons.2 ⟨fun hcl=>?_,h2⟩,fun d hd=>?_⟩
  ·obtain ⟨_,j,hj,hej⟩:=h3 c hcl
   have hu:Y6 h (m+1) c.block:=by rw[hb];exact ⟨c,hc,he⟩
   have:=XQ _ _ _ hej hu
   omega
  ·rcases List.mem_cons.1 hd with rfl|hd
   ·exact ⟨by rw[hb];exact hc,m+1,Nat.le_refl _,by rw[hb];exact ⟨d,hc,he⟩⟩
   ·obtain ⟨a1,j,a2,a3⟩:=h3 d hd
    exact ⟨a1,j,by omega,a3⟩
theorem S7 {h:Zi} {A:List Ch} (hk:ZV h) (ha:XA h) (hA:Zm h A) (u:St):∃ m,Y6 h m u∧m≤A.length:=by
 obtain ⟨m,hm⟩:=ha u
 obtain ⟨l,h1,h2,h3⟩:=Sy hk m u hm
 refine ⟨m,hm,?_⟩
 rw[←h1]
 exact h2.length_le_of_subset fun c hc=>(hA.1 c).2 (h3 c hc).1
theorem Sh {h:Zi} {m:Nat} {b:St} {y:Ch} (he:Y6 h m b) (hy:h b=some y):∃ k,m=k+1∧Y6 h k y.under:=by
 cases m with
 | zero=>rw[show h b=none from he] at hy;cases hy
 | succ k=>obtain ⟨c,hc,h2⟩:=he;rw[hc] at hy;cases hy;exact ⟨k,rfl,h2⟩
theorem Z4.dcells {w:World} {v:Value} {l:List Ch} (h:Z4 Ch.cells 5 w v l) (hne:l≠[]):∃ b o cap,v=.slice (some ⟨b,o,none⟩) l.length cap∧∀ i (x:Ch),l[i]?=some x →
  w.cell? ⟨b,o+i*5,none⟩=some (.int .i64 x.block.n)∧w.cell? ⟨b,o+i*5+1,none⟩=some (.int .i64 x.block.r)∧w.cell? ⟨b,o+i*5+2,none⟩=some (.int .i64 x.under.n)∧w.cell? ⟨b,o+i*5+3,none⟩=some (.int .i64 x.under.r)∧w.cell? ⟨b,o+i*5+4,none⟩=some (.string x.key):=by
 obtain ⟨a,cap,rfl,_,_,h4⟩:=h
 obtain ⟨b,o,rfl,h6⟩:=h4 hne
 exact ⟨b,o,cap,rfl,fun i x hi=>⟨h6 i x hi 0 _ rfl,h6 i x hi 1 _ rfl,h6 i x hi 2 _ rfl,h6 i x hi 3 _ rfl,h6 i x hi 4 _ rfl⟩⟩
section
variable {α:Type} {R:α→α→Prop}
theorem YX {l:List α}:l.Pairwise R↔∀ (i j:Nat) x y,i<j→l[i]?=some x→l[j]?=some y→R x y:=by
 rw[List.pairwise_iff_getElem]
 constructor
 ·intro h i j x y hij hx hy
  obtain ⟨hi,rfl⟩:=List.getElem?_eq_some_iff.1 hx
  obtain ⟨hj,rfl⟩:=List.getElem?_eq_some_iff.1 hy
  exact h i j hi hj hij
 ·intro h i j hi hj hij
  exact h i j _ _ hij (List.getElem?_eq_getElem hi) (List.getElem?_eq_getElem hj)
theorem Xk (l:List α) {i j:Nat} (h:j<i):(l.eraseIdx i)[j]?=l[j]?:=by rw[List.getElem?_eraseIdx,if_pos h]
theorem WV (l:List α) {i j:Nat} (h:i≤j):(l.eraseIdx i)[j]?=l[j+1]?:=by rw[List.getElem?_eraseIdx,if_neg (by omega)]
theorem T7 {l:List α} {i:Nat} {x:α} (h:l[i]?=some x):l.Perm (x :: l.eraseIdx i):=by
 obtain ⟨hi,hx⟩:=List.getElem?_eq_some_iff.1 h
 have e:l=l.take i++x :: l.drop (i+1):=by
  rw[←hx,←List.drop_eq_getElem_cons hi,List.take_append_drop]
 rw[List.eraseIdx_eq_take_drop_succ]
 conv=>lhs;rw[e]
 exact List.perm_middle
structure W5 (R:α→α→Prop) (xs ys:List α) (k:Nat):Prop where
 perm:ys.Perm xs
 lt:k<ys.length
 rest:(ys.eraseIdx k).Pairwise R
 up:∀ (j:Nat) x y,k<j→ys[k]?=some x→ys[j]?=some y→R x y
theorem Vb {l:List α} (h:l.Pairwise R) (x:α):W5 R (l++[x]) (l++[x]) l.length:=by
 refine ⟨List.Perm.refl _,by simp,?_,fun j a b hj ha hb=>?_⟩
 ·rw[List.eraseIdx_append_of_length_le (Nat.le_refl _)];simpa using h
 ·have:=(List.getElem?_eq_some_iff.1 hb).1
  rw[List.length_append] at this
  simp at this
  omega
theorem W5.stands {xs ys:List α} {k:Nat} (tr:∀ a b c,R a b→R b c→R a c) (h:W5 R xs ys k) (hk:∀ (x y:α),0<k→ys[k]?=some x→ys[k - 1]?=some y→R y x):ys.Pairwise R:=by
 have hr:=YX.1 h.rest
 refine YX.2 (fun i j x y hij hx hy=>?_)
 by_cases h1:i<k
 ·by_cases h2:j<k
  ·exact hr i j x y hij (by rw[Xk _ h1];exact hx) (by rw[Xk _ h2];exact hy)
  ·by_cases h3:j=k
   ·subst h3
    obtain ⟨z,hz⟩:∃ z,ys[j - 1]?=some z:=⟨_,List.getElem?_eq_getElem (by have:=h.lt;omega)⟩
    have hzy:=hk y z (by omega) hy hz
    by_cases h4:i=j - 1
    ·subst h4;rw[hz] at hx;cases hx;exact hzy
    ·exact tr _ _ _ (hr i (j - 1) x z (by omega) (by rw[Xk _ h1];exact hx) (by rw[Xk _ (by omega)];exact hz)) hzy
   ·exact hr i (j - 1) x y (by omega) (by rw[Xk _ h1];exact hx) (by rw[WV _ (by omega),show j - 1+1=j by omega];exact hy)
 ·by_cases h2:i=k
  ·subst h2;exact h.up j x y hij hx hy
  ·exact hr (i - 1) (j - 1) x y (by omega) (by rw[WV _ (by omega),show i - 1+1=i by omega];exact hx) (by rw[WV _ (by omega),show j - 1+1=j by omega];exact hy)
def YG (ys:List α) (k:Nat) (x y:α):List α:=(ys.set k y).set (k - 1) x
theorem VI (ys:List α) (k:Nat) (x y:α):(YG ys k x y).length=ys.length:=by simp[YG]
theorem Xq (ys:List α) {k:Nat} {x y:α} (hk0:0<k) (hx:ys[k]?=some x) (hy:ys[k - 1]?=some y) (i:Nat):(YG ys k x y)[i]?=if i=k - 1 then some x else if i=k then some y else ys[i]?:=by
 have h1:=(List.getElem?_eq_some_iff.1 hx).1
 unfold YG
 rw[List.getElem?_set,List.getElem?_set,List.length_set]
 by_cases e1:k - 1=i
 ·rw[if_pos e1,if_pos (by omega),if_pos e1.symm]
 ·rw[if_neg e1,if_neg (show ¬ i=k - 1 from fun e=>e1 e.symm)]
  by_cases e2:k=i
  ·rw[if_pos e2,if_pos (by omega),if_pos e2.symm]
  ·rw[if_neg e2,if_neg (show ¬ i=k from fun e=>e2 e.symm)]
theorem W5.swap {xs ys:List α} {k:Nat} (h:W5 R xs ys k) {x y:α} (hk0:0<k) (hx:ys[k]?=some x) (hy:ys[k - 1]?=some y) (hlt:R x y):W5 R xs (YG ys k x y) (k - 1):=by
 have hr:=YX.1 h.rest
 have hl:(YG ys k x y).length=ys.length:=by simp[YG]
 have he:(YG ys k x y).eraseIdx (k - 1)=ys.eraseIdx k:=by
  apply List.ext_getElem?
  intro i
  by_cases h1:i<k - 1
  ·rw[Xk _ h1,Xk _ (by omega),Xq ys hk0 hx hy,if_neg (by omega),if_neg (by omega)]
  ·rw[WV _ (by omega),Xq ys hk0 hx hy,if_neg (by omega)]
   by_cases h2:i+1=k
   ·rw[if_pos h2,Xk _ (by omega),←hy];congr 1;omega
   ·rw[if_neg h2,WV _ (by omega)]
 refine ⟨?_,by rw[hl];have:=h.lt;omega,by rw[he];exact h.rest,fun j a b hj ha hb=>?_⟩
 ·refine List.Perm.trans ?_ h.perm
  have p1:=T7 (l:=ys) (i:=k) hx
  have p2:=T7 (l:=YG ys k x y) (i:=k - 1) (x:=x) (by rw[Xq ys hk0 hx hy,if_pos rfl])
  rw[he] at p2
  exact p2.trans p1.symm
 ·rw[Xq ys hk0 hx hy,if_pos rfl] at ha
  cases ha
  rw[Xq ys hk0 hx hy,if_neg (by omega)] at hb
  by_cases e:j=k
  ·rw[if_pos e] at hb;cases hb;exact hlt
  ·rw[if_neg e] at hb
   exact h.up j x b (by omega) hx hb
end
theorem X9 {α:Type} {ea:α→List Value} {q:Nat} {T:TypeId} {base g n cap:Nat} {w:World} {zs:List α} (hk:∀ x,(ea x).length=q) (hq0:0<q) (hn:zs.length=n) (h:Own ea q T base w (.slice (some ⟨g,0,none⟩) n cap) zs)
  {k:Nat} {x y:α} (hx:zs[k]?=some x):Own ea q T base (Vi w g (k*q) 0 (ea y)) (.slice (some ⟨g,0,none⟩) n cap) (zs.set k y):=by
 subst hn
 have hxl:=(List.getElem?_eq_some_iff.1 hx).1
 haveI:Inhabited α:=⟨x⟩
 obtain ⟨hs,hb,hc,hm⟩:=h.slab hk
 have h2:=(hs.put hk hxl y).own hk hq0 hb hc hm
 have e:(List.range zs.length).map (upd (fun i=>zs[i]!) k y)=zs.set k y:=by
  apply List.ext_getElem?
  intro i
  rw[List.getElem?_map,List.getElem?_set]
  by_cases hi:i<zs.length
  ·rw[List.getElem?_range hi,Option.map_some]
   unfold upd
   by_cases h1:i=k
   ·rw[if_pos h1,if_pos h1.symm,if_pos hxl]
   ·rw[if_neg h1,if_neg (fun e=>h1 e.symm),List.getElem?_eq_getElem hi];exact congrArg some (getElem!_pos zs i hi)
  ·rw[if_neg (show ¬ k=i by omega),List.getElem?_eq_none (l:=List.range zs.length) (by simp;omega),List.getElem?_eq_none (l:=zs) (by omega)]
   rfl
 rw[e] at h2
 exact h2
theorem Own.cellI {α:Type} {ea:α→List Value} {q:Nat} {T:TypeId} {base g n cap:Nat} {w:World} {l:List α} (h:Own ea q T base w (.slice (some ⟨g,0,none⟩) n cap) l) (hk:∀ x,(ea x).length=q) {i j:Nat} {x:α} {u:Value} (hx:l[i]?=some x) (hu:(ea x)[j]?=some u) :
  w.cell? ⟨g,i*q+j,none⟩=some u:=by
 obtain ⟨a,c,e1,_,_,h4⟩:=h.slice hk
 cases e1
 obtain ⟨b,o,e2,h5⟩:=h4 (by rintro rfl;simp at hx)
 cases e2
 have:=h5 i x hx j u hu
 rw[Nat.zero_add] at this
 exact this
theorem Own.freeI {α:Type} {ea:α→List Value} {q:Nat} {T:TypeId} {base g n cap:Nat} {w:World} {l:List α} (h:Own ea q T base w (.slice (some ⟨g,0,none⟩) n cap) l) (o:Nat):w.frozen? ⟨g,o,none⟩=false:=by
 obtain ⟨cur,hc⟩:=h.tag (b:=g) rfl
 simp[World.frozen?,hc]
theorem Own.lenI {α:Type} {ea:α→List Value} {q:Nat} {T:TypeId} {base g n cap:Nat} {w:World} {l:List α} (h:Own ea q T base w (.slice (some ⟨g,0,none⟩) n cap) l) (hk:∀ x,(ea x).length=q):n=l.length∧n≤cap∧cap≤9223372036854775807:=by
 obtain ⟨a,c,e1,h2,h3,h4⟩:=h.slice hk
 cases e1
 exact ⟨rfl,h2,by unfold maxLen at h3;exact h3⟩
theorem Uq {B:Nat} {w0:World} {g o:Nat} (hg:B≤g):∀ (vs:List Value) (j:Nat) (w:World),Below B w0 w→Below B w0 (Vi w g o j vs)
 | [],_,_,h=>h
 | v :: vs,j,w,h=>Uq hg vs (j+1) _ (h.setCell hg v)
def UT (x:RMv):St × Ch:=(x.at_,x.ch)
def RLt (x y:RMv):Prop:=ZI x.at_ y.at_
def BLt (x y:Ch):Prop:=ZI x.block y.block
def YP (L:List RMv) (c:List (St × Ch)):Prop:=L.map UT=c∧L.Pairwise RLt
theorem YP.ris {L:List RMv} {c:List (St × Ch)} (h:YP L c):S4 c:=by
 rw[←h.1]
 exact List.pairwise_map.2 h.2
theorem YP.len {L:List RMv} {c:List (St × Ch)} (h:YP L c):L.length=c.length:=by rw[←h.1,List.length_map]
theorem Qc {a b:List (St × Ch)} (ha:S4 a) (hb:S4 b) (h:∀ x,x∈a↔x∈b):a=b :=
 Xy (R:=fun x y:St × Ch=>ZI x.1 y.1) (fun x=>Zl x.1) (fun _ _ _ h k=>ZC h k) ha hb h
theorem YP.add {L M:List RMv} {c:List (St × Ch)} (h:YP L c) {x:RMv} (hn:∀ y∈c,y.1≠x.at_) (hp:M.Perm (L++[x])) (hs:M.Pairwise RLt):YP M (Vn c (x.at_,x.ch)):=by
 refine ⟨Qc (List.pairwise_map.2 hs) (Z2G h.ris hn) (fun z=>?_),hs⟩
 rw[Ti,←h.1,List.mem_map,List.mem_map]
 constructor
 ·rintro ⟨y,hy,rfl⟩
  rcases List.mem_append.1 (hp.mem_iff.1 hy) with hy|hy
  ·exact .inr ⟨y,hy,rfl⟩
  ·exact .inl (by rw[List.mem_singleton.1 hy];rfl)
 ·rintro (rfl|⟨y,hy,rfl⟩)
  ·exact ⟨x,hp.mem_iff.2 (by simp),rfl⟩
  ·exact ⟨y,hp.mem_iff.2 (by simp[hy]),rfl⟩
theorem Sv (a b c:RMv) (h:RLt a b) (k:RLt b c):RLt a c:=ZC h k
theorem Vv (a b c:Ch) (h:BLt a b) (k:BLt b c):BLt a c:=ZC h k
def Xm:List Ch→St→Option Nat
 | [],_=>none
 | x :: l,b=>if x.block=b then some 0 else (Xm l b).map (·+1)
theorem WC:∀ {l:List Ch} {b:St} {i:Nat},Xm l b=some i→∃ x,l[i]?=some x∧x.block=b∧∀ j y,j<i→l[j]?=some y→y.block≠b
 | [],_,_,h=>by cases h
 | x :: l,b,i,h=>by
  unfold Xm at h
  split at h
  ·cases h;exact ⟨x,rfl,by assumption,fun j y hj=>absurd hj (by omega)⟩
  ·rename_i hn
   cases hf:Xm l b with
   | none=>rw[hf] at h;cases h
   | some k =>
    rw[hf] at h
    cases h
    obtain ⟨y,h1,h2,h3⟩:=WC hf
    refine ⟨y,by simpa using h1,h2,fun j z hj hz=>?_⟩
    cases j with
    | zero=>simp at hz;subst hz;exact hn
    | succ j=>exact h3 j z (Nat.lt_of_succ_lt_succ hj) (by simpa using hz)
theorem XT:∀ {l:List Ch} {b:St},Xm l b=none↔∀ x∈l,x.block≠b
 | [],b=>by simp[Xm]
 | x :: l,b=>by
  unfold Xm
  split
  ·rename_i h;constructor
   ·intro e;cases e
   ·intro e;exact absurd h (e x (by simp))
  ·rename_i h
   rw[Option.map_eq_none_iff,XT]
   simp[h]
theorem Z2m {l:List Ch} {b:St} {i:Nat} {x:Ch} (hx:l[i]?=some x) (hb:x.block=b) (hn:∀ j y,j<i→l[j]?=some y→y.block≠b):Xm l b=some i:=by
 cases hf:Xm l b with
 | none=>exact absurd hb (XT.1 hf x (List.mem_of_getElem? hx))
 | some k =>
  obtain ⟨y,h1,h2,h3⟩:=WC hf
  rcases Nat.lt_trichotomy i k with h|h|h
  ·exact absurd hb (h3 i x h hx)
  ·rw[h]
  ·exact absurd h2 (hn k y h h1)
def Yw (l:List Ch) (b:St):Int:=match Xm l b with
 | some i=>i
 | none=>-1
theorem Zm.find {h:Zi} {l:List Ch} (a:Zm h l) (hk:ZV h) {b:St}:(Xm l b=none∧h b=none)∨∃ i x,Xm l b=some i∧l[i]?=some x∧h b=some x∧x.block=b:=by
 cases hf:Xm l b with
 | none =>
  refine .inl ⟨rfl,?_⟩
  cases hb:h b with
  | none=>rfl
  | some x =>
   have:=hk b x hb
   exact absurd this (XT.1 hf x ((a.1 x).2 (by rw[this];exact hb)))
 | some i =>
  obtain ⟨x,h1,h2,_⟩:=WC hf
  refine .inr ⟨i,x,rfl,h1,?_,h2⟩
  have:=(a.1 x).1 (List.mem_of_getElem? h1)
  rw[h2] at this
  exact this
theorem Zm.setAt {h:Zi} {l:List Ch} (a:Zm h l) (hk:ZV h) {c x:Ch} {i:Nat} (hi:l[i]?=some x) (hb:x.block=c.block):Zm (V5 h c.block c) (l.set i c):=by
 have hil:=(List.getElem?_eq_some_iff.1 hi).1
 have hp:=YX.1 a.2
 refine ⟨fun d=>?_,YX.2 (fun p q y z hpq hy hz=>?_)⟩
 ·constructor
  ·intro hd
   obtain ⟨p,hpd⟩:=List.getElem?_of_mem hd
   rw[List.getElem?_set] at hpd
   by_cases e:i=p
   ·rw[if_pos e,if_pos (by omega)] at hpd
    cases hpd
    rw[Wl]
   ·rw[if_neg e] at hpd
    have hne:d.block≠c.block:=fun e2=>by
     rcases Nat.lt_or_gt_of_ne e with h1|h1
     ·have:=hp i p x d h1 hi hpd;rw[hb,←e2] at this;exact Zl _ this
     ·have:=hp p i d x h1 hpd hi;rw[hb,←e2] at this;exact Zl _ this
    rw[Xa _ _ hne]
    exact (a.1 d).1 (List.mem_of_getElem? hpd)
  ·intro hd
   by_cases e:d.block=c.block
   ·rw[e,Wl] at hd
    cases hd
    exact List.mem_of_getElem? (i:=i) (by rw[List.getElem?_set,if_pos rfl,if_pos (by omega)])
   ·rw[Xa _ _ e] at hd
    obtain ⟨p,hpd⟩:=List.getElem?_of_mem ((a.1 d).2 hd)
    have:i≠p:=fun e2=>by
     subst e2
     rw[hi] at hpd;cases hpd;exact e hb
    exact List.mem_of_getElem? (i:=p) (by rw[List.getElem?_set,if_neg this];exact hpd)
 ·have key:∀ (p:Nat) (y:Ch),(l.set i c)[p]?=some y→∃ y',l[p]?=some y'∧y'.block=y.block:=fun p y hy=>by
   rw[List.getElem?_set] at hy
   by_cases e:i=p
   ·rw[if_pos e,if_pos (by omega)] at hy
    cases hy
    exact ⟨x,e ▸ hi,hb⟩
   ·rw[if_neg e] at hy
    exact ⟨y,hy,rfl⟩
  obtain ⟨y',h1,h2⟩:=key p y hy
  obtain ⟨z',h3,h4⟩:=key q z hz
  rw[←h2,←h4]
  exact hp p q y' z' hpq h1 h3
theorem Zm.insert {h:Zi} {l M:List Ch} (a:Zm h l) (hk:ZV h) {c:Ch} (hn:h c.block=none) (hp:M.Perm (l++[c])) (hs:M.Pairwise BLt):Zm (V5 h c.block c) M:=by
 refine ⟨fun d=>?_,hs⟩
 rw[hp.mem_iff,List.mem_append,List.mem_singleton]
 by_cases e:d.block=c.block
 ·rw[e,Wl]
  constructor
  ·rintro (h1|rfl)
   ·have:=(a.1 d).1 h1
    rw[e,hn] at this
    cases this
   ·rfl
  ·intro h1;cases h1;exact .inr rfl
 ·rw[Xa _ _ e,a.1 d]
  constructor
  ·rintro (h1|rfl)
   ·exact h1
   ·exact absurd rfl e
  ·exact .inl
theorem Zm.nil:Zm (Y3 []) []:=⟨fun c=>by simp[Z2N],List.Pairwise.nil⟩
theorem YT (c:List (St × Ch)):ZV (Y3 c):=Z0q _
theorem VC (c:List (St × Ch)):XA (Y3 c):=Z1E _
theorem SL {c:List (St × Ch)} {k:Nat} {x:St × Ch} (h:c[k]?=some x):Y3 (c.take (k+1))=Xp (Y3 (c.take k)) x.2:=by
 unfold Y3
 rw[List.take_add_one,h,Option.toList_some,List.map_append,List.map_cons,List.map_nil,Z1G]
noncomputable def Xn (c:List (St × Ch)):List Bool:=(List.range c.length).map fun i=>match c[i]? with
 | some x=>WH (Y3 (c.take i)) x.2
 | none=>false
theorem UE {c:List (St × Ch)} {i:Nat} {x:St × Ch} (h:c[i]?=some x):(Xn c)[i]?=some (WH (Y3 (c.take i)) x.2):=by
 have hi:=(List.getElem?_eq_some_iff.1 h).1
 unfold Xn
 rw[List.getElem?_map,List.getElem?_range hi,Option.map_some,h]
theorem Wp (c:List (St × Ch)):(Xn c).length=c.length:=by simp[Xn]
theorem Z0v {c:List (St × Ch)} {k:Nat} {x:St × Ch} (h:c[k]?=some x):Xn (c.take (k+1))=Xn (c.take k)++[WH (Y3 (c.take k)) x.2]:=by
 have hk:=(List.getElem?_eq_some_iff.1 h).1
 apply List.ext_getElem?
 intro i
 by_cases h1:i<k
 ·obtain ⟨y,hy⟩:∃ y,c[i]?=some y:=⟨_,List.getElem?_eq_getElem (by omega)⟩
  rw[List.getElem?_append_left (by rw[Wp,List.length_take];omega)]
  rw[UE (x:=y) (by rw[List.getElem?_take,if_pos (by omega)];exact hy),UE (x:=y) (by rw[List.getElem?_take,if_pos (by omega)];exact hy),List.take_take,List.take_take,Nat.min_eq_left (by omega),Nat.min_eq_left (by omega)]
 ·by_cases h2:i=k
  ·subst h2
   rw[UE (x:=x) (by rw[List.getElem?_take,if_pos (by omega)];exact h),List.getElem?_append_right (by rw[Wp,List.length_take];omega),Wp,List.length_take,Nat.min_eq_left (by omega),List.take_take,Nat.min_eq_left (by omega)]
   simp
  ·rw[List.getElem?_eq_none (by rw[Wp,List.length_take];omega),List.getElem?_eq_none (by rw[List.length_append,Wp,List.length_take];simp;omega)]
structure YD (h:Zi) (u:St) (l:List Ch) (k:Nat) (M:List Ch):Prop where
 mem:∀ c,c∈M↔c∈l.take k∧c.under=u
 ord:M.Pairwise Yx
theorem Rh (h:Zi) (u:St) (l:List Ch):YD h u l 0 []:=⟨fun c=>by simp,List.Pairwise.nil⟩
theorem YD.skip {h:Zi} {u:St} {l M:List Ch} {k:Nat} (t:YD h u l k M) {x:Ch} (hx:l[k]?=some x) (hne:x.under≠u):YD h u l (k+1) M:=by
 refine ⟨fun c=>?_,t.ord⟩
 rw[t.mem,List.take_add_one,hx,Option.toList_some,List.mem_append,List.mem_singleton]
 constructor
 ·rintro ⟨h1,h2⟩;exact ⟨.inl h1,h2⟩
 ·rintro ⟨h1|rfl,h2⟩
  ·exact ⟨h1,h2⟩
  ·exact absurd h2 hne
theorem YD.put {h:Zi} {u:St} {l M M':List Ch} {k:Nat} (t:YD h u l k M) {x:Ch} (hx:l[k]?=some x) (he:x.under=u) (hp:M'.Perm (M++[x])) (hs:M'.Pairwise Yx):YD h u l (k+1) M':=by
 refine ⟨fun c=>?_,hs⟩
 rw[hp.mem_iff,List.mem_append,List.mem_singleton,t.mem,List.take_add_one,hx,Option.toList_some,List.mem_append,List.mem_singleton]
 constructor
 ·rintro (⟨h1,h2⟩|rfl)
  ·exact ⟨.inl h1,h2⟩
  ·exact ⟨.inr rfl,he⟩
 ·rintro ⟨h1|rfl,h2⟩
  ·exact .inl ⟨h1,h2⟩
  ·exact .inr rfl
theorem YD.len {h:Zi} {u:St} {l M:List Ch} {k:Nat} (t:YD h u l k M) (hk:k≤l.length):M.length≤k:=by
 have hn:M.Nodup:=t.ord.imp fun {x y} h e=>by rw[e] at h;exact XO _ h
 have:=hn.length_le_of_subset (l₂:=l.take k) fun c hc=>((t.mem c).1 hc).1
 rw[List.length_take] at this
 omega
theorem YD.all {h:Zi} {u:St} {l M:List Ch} (a:Zm h l) (t:YD h u l l.length M):WF h u M:=by
 refine ⟨fun c=>?_,t.ord⟩
 rw[t.mem,List.take_length,a.1 c]
theorem YD.later {h:Zi} {u:St} {l M:List Ch} {k:Nat} (a:Zm h l) (t:YD h u l k M) {x y:Ch} (hx:l[k]?=some x) (hy:y∈M):ZI y.block x.block:=by
 obtain ⟨h1,_⟩:=(t.mem y).1 hy
 obtain ⟨j,hj⟩:=List.getElem?_of_mem h1
 rw[List.getElem?_take] at hj
 split at hj
 ·exact YX.1 a.2 j k y x (by assumption) hj hx
 ·cases hj
theorem Z0W {l:List Ch} {b:St} {k:Nat} {x:Ch} (hx:l[k]?=some x) (hb:x.block=b) (hn:∀ j y,j<k→l[j]?=some y→y.block≠b):Yw l b=k:=by
 unfold Yw
 rw[Z2m hx hb hn]
theorem QZ {l:List Ch} {b:St} (hn:∀ j y,j<l.length→l[j]?=some y→y.block≠b):Yw l b=-1:=by
 unfold Yw
 rw[XT.2 (fun x hx=>by
  obtain ⟨i,hi⟩:=List.getElem?_of_mem hx
  exact hn i x (List.getElem?_eq_some_iff.1 hi).1 hi)]
theorem Z1O {l:List Ch} {b:St} {k:Nat} {x:Ch} (h:∀ j y,j<k→l[j]?=some y→y.block≠b) (hx:l[k]?=some x) (hb:x.block≠b):∀ j y,j<k+1→l[j]?=some y→y.block≠b:=fun j y hj hy=>by
 by_cases e:j=k
 ·subst e;rw[hx] at hy;cases hy;exact hb
 ·exact h j y (by omega) hy
theorem Z3j {x:Ch} {bn br:Int} (h:x.block≠⟨bn,br⟩) (e:x.block.n=bn):¬ x.block.r=br:=fun e2=>h (by
 obtain ⟨⟨n,r⟩,u,k⟩:=x
 simp only at e e2
 rw[e,e2])
theorem UA (v:Value) (l:List Ch) (bn br:Int) (w:World) (h:Z4 Ch.cells 5 w v l) (hl:l.length≤1000000) :
  Calls Tryz.prog 22 #[v,.agg #[.int .i64 bn,.int .i64 br]] w fun e w'=>e=.returned (.int .i64 (Yw l ⟨bn,br⟩))∧Below w.heap.size w w':=by
 obtain ⟨a,cap,rfl,hcap,hmax,_⟩:=id h
 unfold maxLen at hmax
 have q0:(w.alloc (.cells #[.int .i64 bn,.int .i64 br] 23)).cell? ⟨w.heap.size,0,none⟩=some (.int .i64 bn):=by go_simp
 have q1:(w.alloc (.cells #[.int .i64 bn,.int .i64 br] 23)).cell? ⟨w.heap.size,1,none⟩=some (.int .i64 br):=by go_simp
 have hB0:Below w.heap.size w (w.alloc (.cells #[.int .i64 bn,.int .i64 br] 23)):=(Below.refl _ _).alloc (Nat.le_refl _) _
 have HH:=Jh (h.below hB0)
 have HB0:=Lib.hid hB0
 clear h hB0
 go_enter Tryz.func22,Tryz.ntmps22
 go_upto_block 0 with fail
 generalize w.alloc (.cells #[.int .i64 bn,.int .i64 br] 23)=w1 at *
 go_wp2_with fail
 go_loopg [5] l.length (fun g iv wx=>∃ k:Nat,g=l.length - k∧k≤l.length∧iv=.int .i64 k∧Hid (∀ j y,j<k→l[j]?=some y→y.block≠⟨bn,br⟩)∧Hid (Below w1.heap.size w1 wx))
 case atStart=>exact ⟨0,rfl,Nat.zero_le _,rfl,Jh (fun j y hj=>absurd hj (by omega)),Jh (Below.refl _ _)⟩
 case round =>
  obtain ⟨k,hg,hk,rfl,HP,HB⟩:=hrel
  have HG:=Lib.hid hg
  clear hg
  by_cases hlt:k<l.length
  ·obtain ⟨x,hx⟩:∃ x,l[k]?=some x:=⟨_,List.getElem?_eq_getElem hlt⟩
   obtain ⟨b,o,c1,e1,h1⟩:=(HH.out.below HB.out).dcells (by intro e;rw[e] at hlt;simp at hlt)
   cases e1
   obtain ⟨x0,x1,-,-,-⟩:=h1 k x hx
   replace q0:=Z0 HB.out q0
   replace q1:=Z0 HB.out q1
   have HX:=Lib.hid hx
   have HD:Hid (∀ n,Below w.heap.size w (wr.drewN n)):=Jh (fun n=>below_drewN (HB0.out.trans (HB.out.mono HB0.out.size)) n)
   have HD1:Hid (∀ n,Below w1.heap.size w1 (wr.drewN n)):=Jh (fun n=>below_drewN HB.out n)
   clear h1 hx
   by_cases hb:x.block=⟨bn,br⟩
   ·have e1:x.block.n=bn:=by rw[hb]
    have e2:x.block.r=br:=by rw[hb]
    rw[e1] at x0
    rw[e2] at x1
    have HF:=Jh (Z0W HX.out hb HP.out)
    clear hb e1 e2
    go_wp2_with fail
    go_quiet (fail)
    go_wp2_with fail
    go_ret
    exact ⟨by rw[HF.out];rfl,HD.out _⟩
   ·have HN:=Jh (Z1O HP.out HX.out hb)
    have hb':=Z3j hb
    clear hb
    by_cases e1:x.block.n=bn
    ·have e2:=hb' e1
     rw[e1] at x0
     clear hb' e1
     go_wp2_with fail
     go_quiet (fail)
     go_wp2_with fail
     go_roundg (l.length - (k+1))
     case measure=>rw[HG.out];omega
     case rel=>exact ⟨k+1,rfl,hlt,by go_num,HN,Jh (HD1.out _)⟩
    ·clear hb'
     go_wp2_with fail
     go_quiet (fail)
     go_wp2_with fail
     go_roundg (l.length - (k+1))
     case measure=>rw[HG.out];omega
     case rel=>exact ⟨k+1,rfl,hlt,by go_num,HN,Jh (HD1.out _)⟩
  ·obtain rfl:k=l.length:=by omega
   have HF:=Jh (QZ HP.out)
   have HD:=Jh (HB0.out.trans (HB.out.mono HB0.out.size))
   have hll:¬ (l.length:Int)<(l.length:Int):=by omega
   clear hlt hk
   go_wp2_with fail
   go_ret
   exact ⟨by rw[HF.out];rfl,HD.out⟩
open Classical in
noncomputable def upB (h:Zi) (u b:St):Bool:=decide (Up h u b)
theorem Z2A (h:Zi) (u:St):upB h u u=true:=by simp[upB,Up.refl]
theorem Z2g {h:Zi} {u b:St} (hn:h u=none) (hne:u≠b):upB h u b=false:=by simp[upB,Z3f hn hne]
theorem Z27 {h:Zi} {u b:St} {c:Ch} (hc:h u=some c) (hne:u≠b):upB h u b=upB h c.under b:=by simp[upB,Z39 hc hne]
theorem Z17 (h:Zi) (c:Ch):WH h c=!(upB h c.under c.block):=rfl
theorem Qd (v:Value) (l:List Ch) (un ur bn br:Int) (w:World) (h:Z4 Ch.cells 5 w v l) (hl:l.length≤1000000) {hh:Zi} (ha:Zm hh l) (hk:ZV hh) (hac:XA hh) :
  Calls Tryz.prog 86 #[v,.agg #[.int .i64 un,.int .i64 ur],.agg #[.int .i64 bn,.int .i64 br]] w fun e w'=>e=.returned (.bool (upB hh ⟨un,ur⟩ ⟨bn,br⟩))∧Below w.heap.size w w':=by
 obtain ⟨a,cap,rfl,hcap,hmax,_⟩:=id h
 unfold maxLen at hmax
 obtain ⟨u,hu⟩:∃ u:St,u=⟨un,ur⟩:=⟨_,rfl⟩
 obtain ⟨m0,he0,hm0⟩:=S7 hk hac ha u
 have hb1:Yl ((w.alloc (.cells #[.int .i64 un,.int .i64 ur] 23)).alloc (.cells #[.int .i64 bn,.int .i64 br] 23)) w.heap.size u:=by rw[hu];exact (Yl.new w ⟨un,ur⟩).alloc _
 have hb2:Yl ((w.alloc (.cells #[.int .i64 un,.int .i64 ur] 23)).alloc (.cells #[.int .i64 bn,.int .i64 br] 23)) (w.heap.size+1) ⟨bn,br⟩:=by
  have:=Yl.new (w.alloc (.cells #[.int .i64 un,.int .i64 ur] 23)) ⟨bn,br⟩
  simpa using this
 have hB0:Below w.heap.size w ((w.alloc (.cells #[.int .i64 un,.int .i64 ur] 23)).alloc (.cells #[.int .i64 bn,.int .i64 br] 23)):=((Below.refl _ _).alloc (Nat.le_refl _) _).alloc (by simp) _
 rw[←hu]
 have HH:=Lib.hid h
 have HA:=Jh (And.intro ha hk)
 have HB0:=Lib.hid hB0
 have HE0:=Lib.hid he0
 have HX1:=Lib.hid hb1
 have HX2:=Lib.hid hb2
 clear h hB0 ha hk hac he0 hb1 hb2 hu
 go_enter Tryz.func86,Tryz.ntmps86
 go_upto_block 0 with fail
 generalize (w.alloc (.cells #[.int .i64 un,.int .i64 ur] 23)).alloc (.cells #[.int .i64 bn,.int .i64 br] 23)=w1 at *
 go_wp2_with fail
 go_loopg [7] (l.length+1) (fun g iv wx=>∃ (k m:Nat) (x:St),g=l.length+1 - k∧k+m≤l.length∧iv=.int .i64 k∧Hid (Y6 hh m x∧upB hh u ⟨bn,br⟩=upB hh x ⟨bn,br⟩)∧Hid (Yl wx w.heap.size x∧Yl wx (w.heap.size+1) ⟨bn,br⟩∧Below w.heap.size w wx))
 case atStart=>exact ⟨0,m0,u,rfl,by omega,rfl,Lib.hid ⟨HE0.out,rfl⟩,Lib.hid ⟨HX1.out,HX2.out,HB0.out⟩⟩
 case round =>
  obtain ⟨k,m,⟨xn,xr⟩,hg,hkm,rfl,HE,HB⟩:=hrel
  have HG:=Lib.hid hg
  clear hg
  have hk1:(k:Int)≤(l.length:Int):=by omega
  have q0:=HB.out.1.c0
  have q1:=HB.out.1.c1
  have q2:=HB.out.2.1.c0
  have q3:=HB.out.2.1.c1
  dsimp only at q0 q1 q2 q3
  by_cases hxb:(⟨xn,xr⟩:St)=⟨bn,br⟩
  ·cases hxb
   have HU:Hid (upB hh u ⟨bn,br⟩=true):=Jh (by rw[HE.out.2,Z2A])
   go_wp2_with fail
   go_ret
   exact ⟨by rw[HU.out];rfl,HB.out.2.2⟩
  ·have HNE:=Lib.hid hxb
   have HFI:=Jh (fun (W:World) (hW:Below w.heap.size w W)=>UA (.slice a l.length cap) l xn xr W (HH.out.below hW) hl)
   have hfind:=HA.out.1.find HA.out.2 (b:=⟨xn,xr⟩)
   have hor:(¬ xn=bn)∨(xn=bn∧¬ xr=br):=by
    by_cases e1:xn=bn
    ·exact .inr ⟨e1,fun e2=>hxb (by rw[e1,e2])⟩
    ·exact .inl e1
   have HF:=Lib.hid hfind
   clear hxb hfind
   rcases hor with e1|⟨rfl,e2⟩
   all_goals
    go_wp2_with fail
    refine (HFI.out _ HB.out.2.2).mono ?_
    rintro e w2 ⟨rfl,b2⟩
    have hbx:=HB.out.1.below b2
    have hby:=HB.out.2.1.below b2
    have hbz:=HB.out.2.2.trans (b2.mono HB.out.2.2.size)
    rcases HF.out with ⟨f1,f2⟩|⟨i,y,f1,f2,f3,f4⟩
    ·have hfi:Yw l ⟨xn,xr⟩=-1:=by unfold Yw;rw[f1]
     rw[hfi]
     have HU:=Jh (HE.out.2.trans (Z2g f2 HNE.out))
     have HN:=Lib.hid hbz
     clear hfi f1 f2 hbx hby hbz b2 HF HFI
     go_wp2_with fail
     go_ret
     exact ⟨by rw[HU.out];rfl,HN.out⟩
    ·have hfi:Yw l ⟨xn,xr⟩=(i:Int):=by unfold Yw;rw[f1]
     rw[hfi]
     obtain ⟨m',rfl,he'⟩:=Sh HE.out.1 f3
     have hil:=(List.getElem?_eq_some_iff.1 f2).1
     obtain ⟨b,o,c1,e1',h1⟩:=(HH.out.below hbz).dcells (by intro e;rw[e] at hil;simp at hil)
     cases e1'
     obtain ⟨-,-,y2,y3,-⟩:=h1 i y f2
     have g0:=hbx.f0
     have g1:=hbx.f1
     have HNX:=Jh (And.intro he' (HE.out.2.trans (Z27 f3 HNE.out)))
     have HBX:=Jh (And.intro (hbx.set y.under.n y.under.r) (And.intro (hby.ext (((Ext.refl (·=w.heap.size) w2).setCell (p:=⟨w.heap.size,0,none⟩) (.inr rfl) (.int .i64 y.under.n)).setCell (p:=⟨w.heap.size,1,none⟩) (.inr rfl) (.int .i64 y.under.r)) (fun e=>by omega)) ((hbz.setCell (p:=⟨w.heap.size,0,none⟩) (Nat.le_refl _) (.int .i64 y.under.n)).setCell (p:=⟨w.heap.size,1,none⟩) (Nat.le_refl _) (.int .i64 y.under.r))))
     have c0:=hbx.c0
     have c1':=hbx.c1
     have hi1:(0:Int)≤(i:Int):=by omega
     have hi2:(i:Int)<(l.length:Int):=by omega
     clear hfi f1 f2 f3 f4 hbx hby hbz b2 HF HFI h1 he' q0 q1 q2 q3
     go_wp2_with fail
     go_roundg (l.length+1 - (k+1))
     case measure=>rw[HG.out];omega
     case rel=>exact ⟨k+1,m',y.under,rfl,by omega,by simp,HNX,HBX⟩
end Go.Proofs.YtlgipkemoldckaaGreatDoor
namespace Go.Proofs.YtlgipkemoldckaaGreatDoor
open Go.RowKit Go.Sort Go.Shelf
section
variable {α:Type} {ea:α→List Value} {k:Nat} {e:TypeId} {base:Nat} {w:World} {v:Value} {l:List α}
variable [Inhabited α]
theorem Un (hk:∀ x,(ea x).length=k) (hk0:0<k) (l:List α) (t:Nat) (ht:t<l.length*k):(l.flatMap ea)[t]?=some ((flatK ea k l.toArray)[t]!):=by
 have hd:t / k<l.length:=(Nat.div_lt_iff_lt_mul hk0).2 ht
 have hm:t % k<k:=Nat.mod_lt _ hk0
 have he:t=t / k*k+t % k:=by rw[Nat.mul_comm];exact (Nat.div_add_mod t k).symm
 rw[get_flatK _ _ _ _ (by simpa using ht)]
 have hx:l[t / k]?=some (l[t / k]):=List.getElem?_eq_getElem hd
 have h2:(l.toArray)[t / k]! = l[t / k]:=by simp[hd]
 rw[h2]
 have hu:(ea l[t / k])[t % k]?=some ((ea l[t / k])[t % k]!):=by
  rw[List.getElem!_eq_getElem?_getD,List.getElem?_eq_getElem (by rw[hk];exact hm)]
  rfl
 have:=getElem?_flatMap_k hk l (t / k) _ hx (t % k) _ hu
 rw[←he] at this
 exact this
theorem Own.holdsK (hk:∀ x,(ea x).length=k) (hk0:0<k) {g cap:Nat} (h:Own ea k e base w (.slice (some ⟨g,0,none⟩) l.length cap) l):HoldsK ea k w g 0 l.toArray:=by
 intro t ht
 simp only[size_flatK,List.size_toArray] at ht
 have h1:=World.ownsRow.cellAt h t ht
 have h2:=World.ownsRow.frozenAt h t
 rw[Un hk hk0 l t ht] at h1
 rw[Nat.zero_add]
 exact ⟨h1,h2⟩
theorem Sa (w:World) (g n:Nat) (d:Array α) (os:Array Obj):Ext (·=g) w (sortWorldK ea k w g 0 n d os):=by
 refine ⟨rfl,rfl,rfl,?_,fun b hb hne=>?_⟩
 ·simp[sortWorldK,grow,putRowK,show (Sort.ahead w n).heap.size=w.heap.size from rfl]
 ·unfold sortWorldK grow putRowK putRow mapBlock
  have hlt:b<((Sort.ahead w n).heap.modify g (onCells (putCells id 0 (flatK ea k d)))).size:=by simpa using hb
  show (((Sort.ahead w n).heap.modify g _)++os)[b]?=_
  rw[Array.getElem?_append_left hlt,Array.getElem?_modify,if_neg (fun e=>hne e.symm)]
  rfl
theorem TG (w:World) (g n:Nat) (d:Array α) (os:Array Obj) {cur:Array Value} {e:TypeId} {fr:Nat × Nat} (h:w.heap[g]?=some (.cells cur e fr)) :
  (sortWorldK ea k w g 0 n d os).heap[g]?=some (.cells (putCells id 0 (flatK ea k d) cur) e fr):=by
 have hg:=(Array.getElem?_eq_some_iff.1 h).1
 unfold sortWorldK grow putRowK putRow mapBlock
 have hlt:g<((Sort.ahead w n).heap.modify g (onCells (putCells id 0 (flatK ea k d)))).size:=by simpa using hg
 show (((Sort.ahead w n).heap.modify g _)++os)[g]?=_
 rw[Array.getElem?_append_left hlt,Array.getElem?_modify,if_pos rfl]
 show (w.heap[g]?).map _=_
 rw[h]
 rfl
theorem Z0G (hk:∀ x,(ea x).length=k) (hk0:0<k) {g cap n:Nat} {d:Array α} {os:Array Obj} (h:Own ea k e base w (.slice (some ⟨g,0,none⟩) l.length cap) l) (hz:d.size=l.length) :
  Own ea k e base (sortWorldK ea k w g 0 n d os) (.slice (some ⟨g,0,none⟩) l.length cap) d.toList:=by
 obtain ⟨h1,h2⟩:=h
 rcases h2 with ⟨h3,_⟩|⟨g',cap',cur,h3,hb,hg,hnc,hcm,hcs,htake⟩
 ·cases h3
 ·cases h3
  have hzl:d.toList.length=l.length:=by simpa using hz
  refine ⟨by rw[ZY hk],.inr ⟨g,cap,_,by rw[hzl],hb,TG w g n d os hg,by rw[hzl];exact hnc,hcm,by simpa [putCells] using hcs,?_⟩⟩
  refine List.ext_getElem? fun t=>?_
  rw[List.getElem?_take]
  split
  ·rename_i ht
   rw[Un hk hk0 d.toList t ht]
   have hF:t<(flatK ea k d).size:=by rw[size_flatK];simpa using ht
   have htc:t<cur.size:=by
    rw[hcs]
    rw[hzl] at ht
    exact Nat.lt_of_lt_of_le ht (Nat.mul_le_mul_right _ hnc)
   rw[Array.getElem?_toList]
   unfold putCells
   rw[Array.getElem?_mapIdx,Array.getElem?_eq_getElem htc]
   simp only[Option.map_some,Nat.zero_le,true_and,Nat.zero_add,Nat.sub_zero,id_eq]
   rw[if_pos hF]
  ·rename_i ht
   rw[List.getElem?_eq_none]
   rw[ZY hk]
   omega
theorem Tq {P:Program} {f:Nat} {fv:Value} {lt:α→α→Bool} (hk:∀ x,(ea x).length=k) (hk0:0<k)
  (hS:∀ (blk cap:Nat) (d:Array α) (w:World),HoldsK ea k w blk 0 d→blk<w.heap.size→d.size<4611686018427387904→Calls P f #[.slice (some ⟨blk,0,none⟩) d.size cap,fv] w fun e w' =>
   e=.returned (.tuple #[])∧∃ d' n os,PermIn 0 d.size d d'∧SortedIn lt 0 d.size d'∧w'=sortWorldK ea k w blk 0 n d' os)
  (h0:∀ (p:Option Addr) (cap:Nat) (w:World),Calls P f #[.slice p 0 cap,fv] w fun e w'=>e=.returned (.tuple #[])∧w'=w)
  (h:Own ea k e base w v l) (hl:l.length<4611686018427387904) :
  Calls P f #[v,fv] w fun e' w'=>e'=.returned (.tuple #[])∧∃ l',l'.Perm l∧l'.Pairwise (fun a b=>lt b a=false)∧Own ea k e base w' v l'∧Ext (fun b=>v.ownBlock=some b) w w':=by
 rcases h.eq_slice with ⟨rfl,rfl⟩|⟨g,cap,rfl,hb,hg⟩
 ·exact (h0 none 0 w).mono fun e w' ⟨he,hw⟩=>⟨he,[],.nil,.nil,by rw[hw];exact h,by rw[hw];exact Ext.refl _ _⟩
 ·obtain ⟨_,_,hcap⟩:∃ a c,(l.length≤cap∧cap≤maxLen):=by
   obtain ⟨h1,h2⟩:=h
   rcases h2 with ⟨h3,_⟩|⟨g',cap',cur,h3,_,_,h4,h5,_⟩
   ·cases h3
   ·cases h3;exact ⟨0,0,h4,h5⟩
  have hH:=h.holdsK hk hk0
  have:=hS g cap l.toArray w hH hg (by simpa using hl)
  simp only[List.size_toArray] at this
  refine this.mono fun e w' ⟨he,d',n,os,hp,hs,hw⟩=>⟨he,d'.toList,?_,?_,?_,?_⟩
  ·obtain ⟨hz,_,hperm⟩:=hp
   have hz':d'.size=l.length:=by simpa using hz
   have e1:d'.extract 0 l.length=d':=by rw[←hz'];exact Array.extract_size
   rw[e1] at hperm
   simpa using hperm
  ·have hz:d'.size=l.length:=by have:=hp.1;simpa using this
   rw[List.pairwise_iff_getElem]
   intro i j hi hj hij
   simp only[Array.length_toList] at hi hj
   have:=hs i j (Nat.zero_le _) hij (by omega)
   rw[getElem!_pos d' i hi,getElem!_pos d' j hj] at this
   simpa using this
  ·have hz:d'.size=l.length:=by have:=hp.1;simpa using this
   rw[hw]
   exact Z0G hk hk0 h hz
  ·rw[hw]
   exact (Sa w g n d' os).mono (fun b _ hb=>by rw[hb];rfl)
end
end Go.Proofs.YtlgipkemoldckaaGreatDoor
namespace Go.Proofs
open Go.Shelf
def Tryz.sortAttr_ren:Go.Shelf.Ren:=⟨fun|6=>60|15=>89|14=>88|28=>117|29=>118|20=>109|21=>110|22=>111|23=>112|24=>113|25=>114|26=>115|27=>116|46=>134|47=>135|48=>136|49=>137|50=>138|57=>146|n=>n,fun|22=>24|24=>73|25=>131|3=>3|39=>145|0=>0|53=>189|55=>192|4=>4|46=>199|45=>198|50=>171|5=>5|9=>9|66=>216|70=>220|76=>228|77=>229|n=>n,fun|n=>n⟩
theorem Tryz.sortAttr:Go.Proofs.SlLaysF0.n6 Tryz.prog Tryz.sortAttr_ren:={
 mixed:=by kernel_rfl
 f6:=⟨Tryz.f60.name,by decide,Tryz.func60.trans (congrArg some (by kernel_rfl))⟩
 f14:=⟨Tryz.f88.name,by decide,Tryz.func88.trans (congrArg some (by kernel_rfl))⟩
 f15:=Tryz.func89.trans (congrArg some (by kernel_rfl))
 f20:=⟨Tryz.f109.name,by decide,Tryz.func109.trans (congrArg some (by kernel_rfl))⟩
 f21:=⟨Tryz.f110.name,by decide,Tryz.func110.trans (congrArg some (by kernel_rfl))⟩
 f22:=⟨Tryz.f111.name,by decide,Tryz.func111.trans (congrArg some (by kernel_rfl))⟩
 f23:=⟨Tryz.f112.name,by decide,Tryz.func112.trans (congrArg some (by kernel_rfl))⟩
 f24:=⟨Tryz.f113.name,by decide,Tryz.func113.trans (congrArg some (by kernel_rfl))⟩
 f25:=⟨Tryz.f114.name,by decide,Tryz.func114.trans (congrArg some (by kernel_rfl))⟩
 f26:=⟨Tryz.f115.name,by decide,Tryz.func115.trans (congrArg some (by kernel_rfl))⟩
 f27:=⟨Tryz.f116.name,by decide,Tryz.func116.trans (congrArg some (by kernel_rfl))⟩
 f28:=Tryz.func117.trans (congrArg some (by kernel_rfl))
 f29:=Tryz.func118.trans (congrArg some (by kernel_rfl))
 f46:=⟨Tryz.f134.name,by decide,Tryz.func134.trans (congrArg some (by kernel_rfl))⟩
 f47:=Tryz.func135.trans (congrArg some (by kernel_rfl))
 f48:=Tryz.func136.trans (congrArg some (by kernel_rfl))
 f49:=⟨Tryz.f137.name,by decide,Tryz.func137.trans (congrArg some (by kernel_rfl))⟩
 f50:=⟨Tryz.f138.name,by decide,Tryz.func138.trans (congrArg some (by kernel_rfl))⟩
 f57:=⟨Tryz.f146.name,by decide,Tryz.func146.trans (congrArg some (by kernel_rfl))⟩
 t0:=Tryz.underlying0
 a0:=Tryz.isAgg0
 z0:=Tryz.sizeOf0
 v0:=Tryz.zeroValue0
 t3:=Tryz.underlying3
 a3:=Tryz.isAgg3
 z3:=Tryz.sizeOf3
 v3:=Tryz.zeroValue3
 t4:=Tryz.underlying4
 a4:=Tryz.isAgg4
 z4:=Tryz.sizeOf4
 v4:=Tryz.zeroValue4
 t5:=Tryz.underlying5
 a5:=Tryz.isAgg5
 z5:=Tryz.sizeOf5
 v5:=Tryz.zeroValue5
 t9:=Tryz.underlying9
 a9:=Tryz.isAgg9
 z9:=Tryz.sizeOf9
 v9:=Tryz.zeroValue9
 t22:=Tryz.underlying24
 a22:=Tryz.isAgg24
 z22:=Tryz.sizeOf24
 v22:=Tryz.zeroValue24
 t25:=Tryz.underlying131
 a25:=Tryz.isAgg131
 z25:=Tryz.sizeOf131
 v25:=Tryz.zeroValue131
 t39:=Tryz.underlying145
 a39:=Tryz.isAgg145
 z39:=Tryz.sizeOf145
 v39:=Tryz.zeroValue145
 t45:=Tryz.underlying198
 a45:=Tryz.isAgg198
 z45:=Tryz.sizeOf198
 v45:=Tryz.zeroValue198
 t46:=Tryz.underlying199
 a46:=Tryz.isAgg199
 z46:=Tryz.sizeOf199
 v46:=Tryz.zeroValue199
 t50:=Tryz.underlying171
 a50:=Tryz.isAgg171
 z50:=Tryz.sizeOf171
 v50:=Tryz.zeroValue171
 t53:=Tryz.underlying189
 a53:=Tryz.isAgg189
 z53:=Tryz.sizeOf189
 v53:=Tryz.zeroValue189
 t55:=Tryz.underlying192
 a55:=Tryz.isAgg192
 z55:=Tryz.sizeOf192
 v55:=Tryz.zeroValue192
 t66:=Tryz.underlying216
 a66:=Tryz.isAgg216
 z66:=Tryz.sizeOf216
 v66:=Tryz.zeroValue216
 t70:=Tryz.underlying220
 a70:=Tryz.isAgg220
 z70:=Tryz.sizeOf220
 v70:=Tryz.zeroValue220
 t76:=Tryz.underlying228
 a76:=Tryz.isAgg228
 z76:=Tryz.sizeOf228
 v76:=Tryz.zeroValue228
 t77:=Tryz.underlying229
 a77:=Tryz.isAgg229
 z77:=Tryz.sizeOf229
 v77:=Tryz.zeroValue229 }
def Tryz.sortChild_ren:Go.Shelf.Ren:=⟨fun|6=>65|15=>89|14=>93|28=>117|29=>118|20=>119|21=>120|22=>121|23=>122|24=>123|25=>124|26=>125|27=>126|46=>139|47=>135|48=>136|49=>140|50=>141|57=>147|n=>n,fun|22=>48|24=>53|25=>139|3=>3|39=>145|0=>0|53=>189|55=>192|4=>4|46=>199|45=>198|50=>171|5=>5|9=>9|66=>216|70=>220|76=>228|77=>229|n=>n,fun|n=>n⟩
theorem Tryz.sortChild:Go.Proofs.SlLaysF0.n6 Tryz.prog Tryz.sortChild_ren:={
 mixed:=by kernel_rfl
 f6:=⟨Tryz.f65.name,by decide,Tryz.func65.trans (congrArg some (by kernel_rfl))⟩
 f14:=⟨Tryz.f93.name,by decide,Tryz.func93.trans (congrArg some (by kernel_rfl))⟩
 f15:=Tryz.func89.trans (congrArg some (by kernel_rfl))
 f20:=⟨Tryz.f119.name,by decide,Tryz.func119.trans (congrArg some (by kernel_rfl))⟩
 f21:=⟨Tryz.f120.name,by decide,Tryz.func120.trans (congrArg some (by kernel_rfl))⟩
 f22:=⟨Tryz.f121.name,by decide,Tryz.func121.trans (congrArg some (by kernel_rfl))⟩
 f23:=⟨Tryz.f122.name,by decide,Tryz.func122.trans (congrArg some (by kernel_rfl))⟩
 f24:=⟨Tryz.f123.name,by decide,Tryz.func123.trans (congrArg some (by kernel_rfl))⟩
 f25:=⟨Tryz.f124.name,by decide,Tryz.func124.trans (congrArg some (by kernel_rfl))⟩
 f26:=⟨Tryz.f125.name,by decide,Tryz.func125.trans (congrArg some (by kernel_rfl))⟩
 f27:=⟨Tryz.f126.name,by decide,Tryz.func126.trans (congrArg some (by kernel_rfl))⟩
 f28:=Tryz.func117.trans (congrArg some (by kernel_rfl))
 f29:=Tryz.func118.trans (congrArg some (by kernel_rfl))
 f46:=⟨Tryz.f139.name,by decide,Tryz.func139.trans (congrArg some (by kernel_rfl))⟩
 f47:=Tryz.func135.trans (congrArg some (by kernel_rfl))
 f48:=Tryz.func136.trans (congrArg some (by kernel_rfl))
 f49:=⟨Tryz.f140.name,by decide,Tryz.func140.trans (congrArg some (by kernel_rfl))⟩
 f50:=⟨Tryz.f141.name,by decide,Tryz.func141.trans (congrArg some (by kernel_rfl))⟩
 f57:=⟨Tryz.f147.name,by decide,Tryz.func147.trans (congrArg some (by kernel_rfl))⟩
 t0:=Tryz.underlying0
 a0:=Tryz.isAgg0
 z0:=Tryz.sizeOf0
 v0:=Tryz.zeroValue0
 t3:=Tryz.underlying3
 a3:=Tryz.isAgg3
 z3:=Tryz.sizeOf3
 v3:=Tryz.zeroValue3
 t4:=Tryz.underlying4
 a4:=Tryz.isAgg4
 z4:=Tryz.sizeOf4
 v4:=Tryz.zeroValue4
 t5:=Tryz.underlying5
 a5:=Tryz.isAgg5
 z5:=Tryz.sizeOf5
 v5:=Tryz.zeroValue5
 t9:=Tryz.underlying9
 a9:=Tryz.isAgg9
 z9:=Tryz.sizeOf9
 v9:=Tryz.zeroValue9
 t22:=Tryz.underlying48
 a22:=Tryz.isAgg48
 z22:=Tryz.sizeOf48
 v22:=Tryz.zeroValue48
 t25:=Tryz.underlying139
 a25:=Tryz.isAgg139
 z25:=Tryz.sizeOf139
 v25:=Tryz.zeroValue139
 t39:=Tryz.underlying145
 a39:=Tryz.isAgg145
 z39:=Tryz.sizeOf145
 v39:=Tryz.zeroValue145
 t45:=Tryz.underlying198
 a45:=Tryz.isAgg198
 z45:=Tryz.sizeOf198
 v45:=Tryz.zeroValue198
 t46:=Tryz.underlying199
 a46:=Tryz.isAgg199
 z46:=Tryz.sizeOf199
 v46:=Tryz.zeroValue199
 t50:=Tryz.underlying171
 a50:=Tryz.isAgg171
 z50:=Tryz.sizeOf171
 v50:=Tryz.zeroValue171
 t53:=Tryz.underlying189
 a53:=Tryz.isAgg189
 z53:=Tryz.sizeOf189
 v53:=Tryz.zeroValue189
 t55:=Tryz.underlying192
 a55:=Tryz.isAgg192
 z55:=Tryz.sizeOf192
 v55:=Tryz.zeroValue192
 t66:=Tryz.underlying216
 a66:=Tryz.isAgg216
 z66:=Tryz.sizeOf216
 v66:=Tryz.zeroValue216
 t70:=Tryz.underlying220
 a70:=Tryz.isAgg220
 z70:=Tryz.sizeOf220
 v70:=Tryz.zeroValue220
 t76:=Tryz.underlying228
 a76:=Tryz.isAgg228
 z76:=Tryz.sizeOf228
 v76:=Tryz.zeroValue228
 t77:=Tryz.underlying229
 a77:=Tryz.isAgg229
 z77:=Tryz.sizeOf229
 v77:=Tryz.zeroValue229 }
end Go.Proofs
namespace Go.Proofs.YtlgipkemoldckaaGreatDoor
open Go.RowKit Go.Sort Go.Shelf
theorem WA {α:Type} {l:List α} {i:Nat} {x:α} (h:l[i]?=some x):l.Perm (x :: l.eraseIdx i):=by
 induction l generalizing i with
 | nil=>simp at h
 | cons y l ih =>
  cases i with
  | zero=>simp at h;subst h;simp
  | succ i =>
   simp at h
   exact (List.Perm.cons y (ih h)).trans (List.Perm.swap x y _)
theorem Xr:(Tryz.prog.info? 53).map (fun i=>(i.zero,i.size,i.bytes))=some (some (.agg #[.int .i64 0,.int .i64 0,.int .i64 0,.int .i64 0,.string ⟨#[]⟩]),5,48):=by kernel_rfl
end Go.Proofs.YtlgipkemoldckaaGreatDoor
namespace Go.Proofs.YtlgipkemoldckaaGreatDoor
open Go.RowKit
def St.cells (s:St):List Value:=[.int .i64 s.n,.int .i64 s.r]
theorem Z0U:(Tryz.prog.info? 23).map (fun i=>(i.zero,i.size,i.bytes))=some (some (.agg #[.int .i64 0,.int .i64 0]),2,16):=by kernel_rfl
section
variable {base:Nat} {w:World} {mh:Nat} {c:List (St × Ch)}
end
end Go.Proofs.YtlgipkemoldckaaGreatDoor
