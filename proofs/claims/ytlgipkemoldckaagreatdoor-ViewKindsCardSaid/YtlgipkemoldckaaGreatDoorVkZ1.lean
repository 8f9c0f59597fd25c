/- ViewKinds, part 1 of what the proof leans on (made short by a program). -/
import Derived.Test.YtlgipkemoldckaaGreatDoorRows
import Derived.WalkSpells
import Derived.WalkLawsBesides
import Derived.Lib.Hide
import Derived.ProofKit
import Derived.Deep.Slices
import Derived.Deep.LoopGhost
import Derived.Deep.RegionHeld3
import Derived.Lib.AppendZerosOnto
import Derived.Shelf.Spec.SlicesInsert
import Derived.RangeFuncNested
import Derived.RangeFuncBound
import Derived.Shelf.RegionOpen
import Derived.OwnWalkIn
import Derived.LoopNIn
import Derived.LoopIn
set_option linter.unusedSimpArgs false
set_option linter.unusedVariables false
set_option linter.unusedSectionVars false
set_option maxRecDepth 20000
set_option maxHeartbeats 30000000
namespace Go.Proofs.YtlgipkemoldckaaGreatDoor
open Go.RowKit
def WU (a b:Int):Int:=if a<b then -1 else if b<a then 1 else 0
structure St where
 n:Int
 r:Int
 deriving DecidableEq
def St.val (s:St):Value:=.agg #[.int .i64 s.n,.int .i64 s.r]
def Z7 (s:St):Bool:=decide (1≤s.n∧s.n≤1048576∧0≤s.r∧s.r<8)
def Yd (a b:St):Int:=if WU a.n b.n != 0 then WU a.n b.n else WU a.r b.r
theorem Ve (a b:Int) (w:World) :
  Calls Tryz.prog 59 #[.int .i64 a,.int .i64 b] w fun e w'=>e=.returned (.int .i64 (WU a b))∧w=w':=by
 by_cases h1:a<b
 ·go_enter Tryz.func59,Tryz.ntmps59
  go_wp2
  go_ret
  exact ⟨by simp[WU,h1],rfl⟩
 ·by_cases h2:b<a
  ·go_enter Tryz.func59,Tryz.ntmps59
   go_wp2
   go_ret
   exact ⟨by simp[WU,h1,h2],rfl⟩
  ·go_enter Tryz.func59,Tryz.ntmps59
   go_wp2
   go_ret
   exact ⟨by rw[WU,if_neg (by omega),if_neg (by omega)];rfl,rfl⟩
theorem VQ (a b c d:Int) (w:World) :
  Calls Tryz.prog 42 #[.agg #[.int .i64 a,.int .i64 b],.agg #[.int .i64 c,.int .i64 d]] w
   fun e w'=>e=.returned (.int .i64 (Yd ⟨a,b⟩ ⟨c,d⟩))∧Below w.heap.size w w':=by
 by_cases h1:(WU a c != 0)=true
 ·go_enter Tryz.func42,Tryz.ntmps42
  go_wp2_with (go_at_call 59;refine (Ve _ _ _).mono ?_;rintro e w' ⟨rfl,rfl⟩)
  go_ret
  exact ⟨by simp[Yd,h1],((Below.refl _ _).alloc (Nat.le_refl _) _).alloc (by simp) _⟩
 ·have h1:(WU a c != 0)=false:=by simpa using h1
  go_enter Tryz.func42,Tryz.ntmps42
  go_wp2_with (go_at_call 59;refine (Ve _ _ _).mono ?_;rintro e w' ⟨rfl,rfl⟩)
  go_ret
  exact ⟨by simp[Yd,h1],((Below.refl _ _).alloc (Nat.le_refl _) _).alloc (by simp) _⟩
theorem V2 (a b:Int) (w:World) :
  Calls Tryz.prog 41 #[.agg #[.int .i64 a,.int .i64 b]] w
   fun e w'=>e=.returned (.bool (Z7 ⟨a,b⟩))∧Below w.heap.size w w':=by
 by_cases h1:1≤a
 ·by_cases h2:a≤1048576
  ·by_cases h3:0≤b
   ·by_cases h4:b<8
    ·have hr:Z7 ⟨a,b⟩=true:=by simp only[Z7,decide_eq_true_eq];exact ⟨h1,h2,h3,h4⟩
     rw[hr];clear hr
     go_enter Tryz.func41,Tryz.ntmps41
     go_wp2
     go_ret
     exact ⟨rfl,(Below.refl _ _).alloc (Nat.le_refl _) _⟩
    ·have hr:Z7 ⟨a,b⟩=false:=by simp only[Z7,decide_eq_false_iff_not];omega
     rw[hr];clear hr
     go_enter Tryz.func41,Tryz.ntmps41
     go_wp2
     go_ret
     exact ⟨rfl,(Below.refl _ _).alloc (Nat.le_refl _) _⟩
   ·have hr:Z7 ⟨a,b⟩=false:=by simp only[Z7,decide_eq_false_iff_not];omega
    rw[hr];clear hr
    go_enter Tryz.func41,Tryz.ntmps41
    go_wp2
    go_ret
    exact ⟨rfl,(Below.refl _ _).alloc (Nat.le_refl _) _⟩
  ·have hr:Z7 ⟨a,b⟩=false:=by simp only[Z7,decide_eq_false_iff_not];omega
   rw[hr];clear hr
   go_enter Tryz.func41,Tryz.ntmps41
   go_wp2
   go_ret
   exact ⟨rfl,(Below.refl _ _).alloc (Nat.le_refl _) _⟩
 ·have hr:Z7 ⟨a,b⟩=false:=by simp only[Z7,decide_eq_false_iff_not];omega
  rw[hr];clear hr
  go_enter Tryz.func41,Tryz.ntmps41
  go_wp2
  go_ret
  exact ⟨rfl,(Below.refl _ _).alloc (Nat.le_refl _) _⟩
theorem Jh {p:Prop} (h:p):Hid p:=Lib.hid h
theorem Je {α:Sort _} (a:α):∃ x,a=x:=⟨_,rfl⟩
structure Ext (S:Nat→Prop) (w w':World):Prop where
 os:w'.os=w.os
 tape:w'.tape=w.tape
 output:w'.output=w.output
 size:w.heap.size≤w'.heap.size
 block:∀ k,k<w.heap.size→¬ S k→w'.heap[k]?=w.heap[k]?
theorem Ext.refl (S:Nat→Prop) (w:World):Ext S w w:=⟨rfl,rfl,rfl,Nat.le_refl _,fun _ _ _=>rfl⟩
theorem Ext.trans {S:Nat→Prop} {a b c:World} (h:Ext S a b) (k:Ext S b c):Ext S a c :=
 ⟨k.os.trans h.os,k.tape.trans h.tape,k.output.trans h.output,Nat.le_trans h.size k.size,fun i hi hn=>(k.block i (Nat.lt_of_lt_of_le hi h.size) hn).trans (h.block i hi hn)⟩
theorem Ext.mono {S T:Nat→Prop} {w w':World} (h:Ext S w w') (hs:∀ k,k<w.heap.size→S k→T k):Ext T w w' :=
 ⟨h.os,h.tape,h.output,h.size,fun k hk hn=>h.block k hk (fun s=>hn (hs k hk s))⟩
theorem Ext.andThen {S T:Nat→Prop} {a b c:World} (h:Ext S a b) (k:Ext T b c) (hs:∀ i,i<a.heap.size→T i→S i):Ext S a c :=
 ⟨k.os.trans h.os,k.tape.trans h.tape,k.output.trans h.output,Nat.le_trans h.size k.size,fun i hi hn=>(k.block i (Nat.lt_of_lt_of_le hi h.size) (fun t=>hn (hs i hi t))).trans (h.block i hi hn)⟩
theorem Ext.drew {S:Nat→Prop} {a w:World} (h:Ext S a w):Ext S a w.drew:=⟨h.os,h.tape,h.output,h.size,h.block⟩
theorem Ext.alloc {S:Nat→Prop} {a w:World} (h:Ext S a w) (o:Obj):Ext S a (w.alloc o) :=
 h.trans ⟨rfl,rfl,rfl,by simp,fun k hk _=>Below.heap_alloc _ _ _ hk⟩
theorem Ext.setCell {S:Nat→Prop} {a w:World} (h:Ext S a w) {p:Addr} (hp:a.heap.size≤p.block∨S p.block) (u:Value):Ext S a (w.setCell p u) :=
 ⟨h.os,h.tape,h.output,by simpa [World.setCell] using h.size,fun k hk hn=>by
  rw[Below.heap_setCell _ _ _ _ (by intro e;subst e;rcases hp with hp|hp;omega;exact hn hp)];exact h.block k hk hn⟩
theorem Ext.of_below {S:Nat→Prop} {w w':World} (h:Below w.heap.size w w'):Ext S w w':=⟨h.os,h.tape,h.output,h.size,fun k hk _=>h.block k hk⟩
theorem Ext.cell {S:Nat→Prop} {w w':World} (h:Ext S w w') {p:Addr} (hp:p.block<w.heap.size) (hn:¬ S p.block):w'.cell? p=w.cell? p:=World.cell?_of_block (w:=w) (h.block p.block hp hn)
theorem ZU {B:Nat} {w w':World}:Below B w.drew w'↔Below B w w':=⟨fun h=>⟨h.os,h.tape,h.output,h.size,h.block⟩,fun h=>⟨h.os,h.tape,h.output,h.size,h.block⟩⟩
theorem Y4 (w:World):w.drew.heap=w.heap:=rfl
theorem Ext.new {S:Nat→Prop} {B:Nat} {w a b:World} (h:Below B w a) (k:Ext S a b) (hs:∀ i,i<B→i<a.heap.size→¬ S i) (hB:B≤a.heap.size):Below B w b :=
 ⟨k.os.trans h.os,k.tape.trans h.tape,k.output.trans h.output,Nat.le_trans h.size k.size,fun i hi=>(k.block i (by omega) (hs i hi (by omega))).trans (h.block i hi)⟩
theorem Zj {w:World} {b o:Nat} {v:Value} (h:w.cell? ⟨b,o,none⟩=some v):b<w.heap.size:=by
 simp only[World.cell?] at h
 exact Classical.byContradiction fun hn=>by rw[Array.getElem?_eq_none (by omega)] at h;cases h
theorem Z1 {w:World} {b o:Nat} {v:Value} (h:w.cell? ⟨b,o,none⟩=some v) (x:Obj):(w.alloc x).cell? ⟨b,o,none⟩=some v :=
 (World.cell?_alloc_past x b o (Zj h)).trans h
theorem Z0 {W w1:World} (hb:Below W.heap.size W w1) {b o:Nat} {v:Value} (h:W.cell? ⟨b,o,none⟩=some v):w1.cell? ⟨b,o,none⟩=some v :=
 (hb.cell (p:=⟨b,o,none⟩) (Zj h)).trans h
theorem Ext.keep {S:Nat→Prop} {W w1:World} (hb:Ext S W w1) {b o:Nat} {v:Value} (h:W.cell? ⟨b,o,none⟩=some v) (hn:¬ S b):w1.cell? ⟨b,o,none⟩=some v :=
 (hb.cell (p:=⟨b,o,none⟩) (Zj h) hn).trans h
section maps
variable {K V:Type} [DecidableEq K]
def Z3:List (K × V)→K→Option V
 | [],_=>none
 | (k',v) :: r,k=>if k'=k then some v else Z3 r k
def Zw:List (K × V)→K→V→List (K × V)
 | [],k,v=>[(k,v)]
 | (k',v') :: r,k,v=>if k'=k then (k',v) :: r else (k',v') :: Zw r k v
def Zr:List (K × V)→K→Option Nat
 | [],_=>none
 | (k',_) :: r,k=>if k'=k then some 0 else (Zr r k).map (·+1)
theorem UW {l:List (K × V)} {k:K} (h:Zr l k=none):Z3 l k=none:=by
 induction l with
 | nil=>rfl
 | cons p r ih =>
  obtain ⟨k',v⟩:=p
  simp only[Zr] at h
  split at h
  ·cases h
  ·rename_i hne
   simp only[Z3,hne,if_false]
   exact ih (by simpa using h)
theorem V1 {l:List (K × V)} {k:K} {i:Nat} (h:Zr l k=some i):∃ v,l[i]?=some (k,v)∧Z3 l k=some v:=by
 induction l generalizing i with
 | nil=>cases h
 | cons p r ih =>
  obtain ⟨k',v⟩:=p
  simp only[Zr] at h
  split at h
  ·rename_i he
   cases h
   exact ⟨v,by simp[he],by simp[Z3,he]⟩
  ·rename_i hne
   cases hi:Zr r k with
   | none=>rw[hi] at h;cases h
   | some j =>
    rw[hi] at h
    cases h
    obtain ⟨u,h1,h2⟩:=ih hi
    exact ⟨u,by simpa using h1,by simpa [Z3,hne] using h2⟩
theorem SO {l:List (K × V)} {k:K} {v:V} (h:Zr l k=none):Zw l k v=l++[(k,v)]:=by
 induction l with
 | nil=>rfl
 | cons p r ih =>
  obtain ⟨k',v'⟩:=p
  simp only[Zr] at h
  split at h
  ·cases h
  ·rename_i hne
   simp only[Zw,hne,if_false,List.cons_append]
   rw[ih (by simpa using h)]
theorem SR {l:List (K × V)} {k:K} {v:V} {i:Nat} (h:Zr l k=some i):Zw l k v=l.set i (k,v):=by
 induction l generalizing i with
 | nil=>cases h
 | cons p r ih =>
  obtain ⟨k',v'⟩:=p
  simp only[Zr] at h
  split at h
  ·rename_i he
   cases h
   simp[Zw,he]
  ·rename_i hne
   cases hi:Zr r k with
   | none=>rw[hi] at h;cases h
   | some j =>
    rw[hi] at h
    cases h
    simp[Zw,hne,ih hi]
theorem ZW (l:List (K × V)) (k:K) (v:V):Z3 (Zw l k v) k=some v:=by
 induction l with
 | nil=>simp[Zw,Z3]
 | cons p r ih =>
  obtain ⟨k',v'⟩:=p
  by_cases h:k'=k <;> simp[Zw,Z3,h,ih]
theorem ZF (l:List (K × V)) {k j:K} (v:V) (h:k≠j):Z3 (Zw l k v) j=Z3 l j:=by
 induction l with
 | nil=>simp[Zw,Z3,h]
 | cons p r ih =>
  obtain ⟨k',v'⟩:=p
  by_cases h1:k'=k
  ·subst h1;simp[Zw,Z3,h]
  ·simp only[Zw,if_neg h1,Z3,ih]
theorem Z29 (l:List (K × V)) (k:K) (v:V):∀ x,x∈(Zw l k v).map (·.1)↔x=k∨x∈l.map (·.1):=by
 intro x
 induction l with
 | nil=>simp[Zw]
 | cons p r ih =>
  obtain ⟨k',v'⟩:=p
  by_cases h1:k'=k
  ·subst h1;simp[Zw]
  ·simp only[Zw,h1,if_false,List.map_cons,List.mem_cons,ih]
   constructor
   ·rintro (h|h|h)
    ·exact .inr (.inl h)
    ·exact .inl h
    ·exact .inr (.inr h)
   ·rintro (h|h|h)
    ·exact .inr (.inl h)
    ·exact .inl h
    ·exact .inr (.inr h)
theorem U7 (l:List (K × V)) (k:K) (v:V) (h:(l.map (·.1)).Nodup):((Zw l k v).map (·.1)).Nodup:=by
 induction l with
 | nil=>simp[Zw]
 | cons p r ih =>
  obtain ⟨k',v'⟩:=p
  by_cases h1:k'=k
  ·subst h1;simpa [Zw] using h
  ·simp only[Zw,if_neg h1,List.map_cons,List.nodup_cons] at h ⊢
   refine ⟨fun hm=>?_,ih h.2⟩
   rcases (Z29 r k v k').1 hm with e|e
   ·exact absurd e h1
   ·exact h.1 e
theorem Tu {l:List (K × V)} {k:K} {v:V} (h:Z3 l k=some v):(k,v)∈l:=by
 induction l with
 | nil=>cases h
 | cons p r ih =>
  obtain ⟨k',v'⟩:=p
  by_cases h1:k'=k
  ·simp only[Z3,h1,if_true] at h;cases h;simp[h1]
  ·simp only[Z3,h1,if_false] at h;exact List.mem_cons_of_mem _ (ih h)
theorem VO {l:List (K × V)} {k:K} {v:V} (hn:(l.map (·.1)).Nodup) (h:(k,v)∈l):Z3 l k=some v:=by
 induction l with
 | nil=>cases h
 | cons p r ih =>
  obtain ⟨k',v'⟩:=p
  simp only[List.map_cons,List.nodup_cons] at hn
  rcases List.mem_cons.1 h with e|h
  ·cases e;simp[Z3]
  ·have:k'≠k:=fun e=>hn.1 (by subst e;exact List.mem_map.2 ⟨_,h,rfl⟩)
   simp only[Z3,this,if_false];exact ih hn.2 h
theorem S8 (l:List (K × V)) (k:K) (v:V):(Zw l k v).length≤l.length+1:=by
 induction l with
 | nil=>simp[Zw]
 | cons p r ih =>
  obtain ⟨k',v'⟩:=p
  by_cases h1:k'=k
  ·simp[Zw,h1]
  ·simp[Zw,h1];omega
structure WF (P:Program) (kt:TypeId) (ek:K→Value):Prop where
 check:∀ (em:Bool) (k:K) (w:World),(Instr.checkKey em 10000 kt (ek k)).run P w=.ok () w
 find:∀ (k:K) (es:List MapEntry) (l:List (K × V)) (w:World),es.map (·.key)=l.map (fun p=>ek p.1) →
  (Instr.findKey kt (ek k) es).run P w=.ok ((Zr l k).map fun i=>(i,((es[i]?).map (·.val)).getD undef)) w
 stays:∀ (k:K) (w:World),(Instr.keyThatStays (ek k) (ek k)).run P w=.ok (ek k) w
def Z6 (ek:K→Value) (ev:V→Value) (w:World) (b:Nat) (l:List (K × V)):Prop :=
 (l.map (·.1)).Nodup∧∃ es clock,w.heap[b]?=some (.map es clock)∧es.toList.map (·.key)=l.map (fun p=>ek p.1)∧es.toList.map (·.val)=l.map (fun p=>ev p.2) ∧
  es.toList.Pairwise (fun x y=>x.born<y.born)∧∀ e∈es.toList,e.born<clock
variable {ek:K→Value} {ev:V→Value} {w:World} {b:Nat} {l:List (K × V)}
theorem Z6.of_block {w':World} (h:Z6 ek ev w b l) (hb:w'.heap[b]?=w.heap[b]?):Z6 ek ev w' b l:=by
 obtain ⟨hn,es,clock,h1,h2⟩:=h
 exact ⟨hn,es,clock,hb.trans h1,h2⟩
theorem Z6.lt (h:Z6 ek ev w b l):b<w.heap.size:=by
 obtain ⟨hn,es,clock,h1,h2⟩:=h
 exact (Array.getElem?_eq_some_iff.1 h1).1
theorem Z6.nodup (h:Z6 ek ev w b l):(l.map (·.1)).Nodup:=h.1
theorem Z6.drew (h:Z6 ek ev w b l):Z6 ek ev w.drew b l:=h
theorem Z6.alloc (h:Z6 ek ev w b l) (o:Obj):Z6 ek ev (w.alloc o) b l:=h.of_block (Below.heap_alloc _ _ _ h.lt)
theorem Z6.setCell (h:Z6 ek ev w b l) (p:Addr) (v:Value):Z6 ek ev (w.setCell p v) b l:=by
 obtain ⟨hn,es,clock,h1,h2⟩:=h
 refine ⟨hn,es,clock,?_,h2⟩
 simp only[World.setCell,Array.getElem?_modify]
 split
 ·rename_i e
  subst e
  rw[h1]
  rfl
 ·exact h1
theorem Z6.ext {S:Nat→Prop} {w':World} (h:Z6 ek ev w b l) (hx:Ext S w w') (hn:¬ S b):Z6 ek ev w' b l:=h.of_block (hx.block b h.lt hn)
theorem Z6.below {w':World} (h:Z6 ek ev w b l) (hx:Below w.heap.size w w'):Z6 ek ev w' b l:=h.of_block (hx.block b h.lt)
theorem Z6.made (w:World):Z6 ek ev (w.alloc (.map #[] 0)) w.heap.size ([]:List (K × V)) :=
 ⟨List.nodup_nil,#[],0,by show (w.heap.push _)[w.heap.size]?=_;simp,rfl,rfl,List.Pairwise.nil,by simp⟩
theorem ZA {P:Program} {es:Array MapEntry} {clock:Nat} (h:w.heap[b]?=some (.map es clock)):(getObj b).run P w=.ok (.map es clock) w:=MapKept.run_getObj_map h
theorem Z6.lookup {P:Program} {mt kt et:TypeId} (h:Z6 ek ev w b l) (hk:WF (V:=V) P kt ek) (hm:P.underlying mt=some (.map kt et)) {z:Value} (hz:∀ w,(zeroValue et).run P w=.ok z w) (k:K) :
  (Instr.lookup mt (.map (some b)) (ek k) false).run P w=.ok (((Z3 l k).map ev).getD z) w:=by
 obtain ⟨hn,es,clock,h1,h2,h3,h4⟩:=h
 have hf:=hk.find k es.toList l w h2
 cases hi:Zr l k with
 | none =>
  have h0:=UW hi
  rw[hi] at hf
  simp[Instr.lookup,run_underlying hm,ZA h1,hk.check,hf,hz,h0,Result.andThen]
 | some i =>
  obtain ⟨v,e1,e2⟩:=V1 hi
  have hv:es.toList[i]?.map (·.val)=some (ev v):=by
   have:=congrArg (fun l:List Value=>l[i]?) h3
   simpa [e1] using this
  rw[hi] at hf
  simp only[Array.getElem?_toList] at hf hv
  simp[Instr.lookup,run_underlying hm,ZA h1,hk.check,hf,e2,Result.andThen]
  rw[show es[i]?.map (·.val)=some (ev v) from hv]
  rfl
theorem Z6.lookupOk {P:Program} {mt kt et:TypeId} (h:Z6 ek ev w b l) (hk:WF (V:=V) P kt ek) (hm:P.underlying mt=some (.map kt et)) {z:Value} (hz:∀ w,(zeroValue et).run P w=.ok z w) (k:K) :
  (Instr.lookup mt (.map (some b)) (ek k) true).run P w=.ok (.tuple #[((Z3 l k).map ev).getD z,.bool (Z3 l k).isSome]) w:=by
 obtain ⟨hn,es,clock,h1,h2,h3,h4⟩:=h
 have hf:=hk.find k es.toList l w h2
 cases hi:Zr l k with
 | none =>
  have h0:=UW hi
  rw[hi] at hf
  simp[Instr.lookup,run_underlying hm,ZA h1,hk.check,hf,hz,h0,Result.andThen]
 | some i =>
  obtain ⟨v,e1,e2⟩:=V1 hi
  have hv:es.toList[i]?.map (·.val)=some (ev v):=by
   have:=congrArg (fun l:List Value=>l[i]?) h3
   simpa [e1] using this
  rw[hi] at hf
  simp only[Array.getElem?_toList] at hf hv
  simp[Instr.lookup,run_underlying hm,ZA h1,hk.check,hf,e2,Result.andThen]
  rw[show es[i]?.map (·.val)=some (ev v) from hv]
  rfl
def Zp (w:World) (b:Nat) (i:Option Nat) (k v:Value):World :=
 match w.heap[b]? with
 | some (.map es clock)=>match i with
  | some i=>{ w with heap:=w.heap.setIfInBounds b (.map (es.modify i fun e=>{ e with key:=k,val:=v }) clock) }
  | none=>{ w with heap:=w.heap.setIfInBounds b (.map (es.push { key:=k,val:=v,born:=clock }) (clock+1)) }
 | _=>w
theorem Wj (w:World) (b:Nat) (i:Option Nat) (k v:Value):(Zp w b i k v).heap.size=w.heap.size:=by
 unfold Zp;split
 ·split <;> simp
 ·rfl
theorem XP (w:World) (b:Nat) (i:Option Nat) (k v:Value) (c:Nat) (h:c≠b):(Zp w b i k v).heap[c]?=w.heap[c]?:=by
 unfold Zp;split
 ·split <;> simp[Array.getElem?_setIfInBounds,h.symm]
 ·rfl
theorem ZR (w:World) (b:Nat) (i:Option Nat) (k v:Value) (a:Addr):(Zp w b i k v).cell? a=w.cell? a:=by
 by_cases h:a.block=b
 ·subst h
  unfold Zp
  split
  ·rename_i es clock hb
   split <;> (simp only[World.cell?,Array.getElem?_setIfInBounds,if_true,hb];split <;> simp_all)
  ·rfl
 ·exact World.cell?_of_block (w:=w) (XP w b i k v _ h)
theorem Xr (w:World) (b:Nat) (i:Option Nat) (k v:Value):Ext (·=b) w (Zp w b i k v):=by
 refine ⟨?_,?_,?_,Nat.le_of_eq (Wj w b i k v).symm,fun c _ h=>XP w b i k v c h⟩ <;> (unfold Zp;split <;> (try split) <;> rfl)
theorem Ext.mapPut {S:Nat→Prop} {a w:World} (h:Ext S a w) {b:Nat} (hb:S b∨a.heap.size≤b) (i:Option Nat) (k v:Value):Ext S a (Zp w b i k v) :=
 h.andThen (Xr w b i k v) (fun j hj e=>by rcases hb with hb|hb;exact e ▸ hb;exact absurd hj (by omega))
theorem Ext.then_below {S:Nat→Prop} {a w w':World} (h:Ext S a w) (k:Below w.heap.size w w'):Ext S a w':=h.andThen (Ext.of_below (S:=fun _=>False) k) (fun _ _ f=>f.elim)
theorem Z6.update {P:Program} {mt kt et:TypeId} (h:Z6 ek ev w b l) (hk:WF (V:=V) P kt ek) (hm:P.underlying mt=some (.map kt et)) (k:K) (v:Value) :
  (Instr.mapUpdate mt (.map (some b)) (ek k) v).run P w=.ok () (Zp w b (Zr l k) (ek k) v):=by
 obtain ⟨hn,es,clock,h1,h2,h3,h4⟩:=h
 have hf:=hk.find k es.toList l w h2
 cases hi:Zr l k with
 | none =>
  rw[hi] at hf
  simp[Instr.mapUpdate,run_underlying hm,ZA h1,hk.check,hf,Result.andThen,MapKept.run_setObj_map _ h1,Zp,h1]
 | some i =>
  obtain ⟨u,e1,e2⟩:=V1 hi
  have hv:es.toList[i]?.map (·.key)=some (ek k):=by
   have:=congrArg (fun l:List Value=>l[i]?) h2
   simpa [e1] using this
  rw[hi] at hf
  simp only[Array.getElem?_toList] at hf hv
  simp[Instr.mapUpdate,run_underlying hm,ZA h1,hk.check,hf,hv,hk.stays,Result.andThen,MapKept.run_setObj_map _ h1,Zp,h1]
theorem Z6.put (h:Z6 ek ev w b l) (k:K) (v:V):Z6 ek ev (Zp w b (Zr l k) (ek k) (ev v)) b (Zw l k v):=by
 refine ⟨U7 l k v h.1,?_⟩
 have hlt:=h.lt
 obtain ⟨hn,es,clock,h1,h2,h3,h4,h5⟩:=h
 cases hi:Zr l k with
 | none =>
  refine ⟨es.push { key:=ek k,val:=ev v,born:=clock },clock+1,?_,?_,?_,?_,?_⟩
  ·simp only[Zp,h1];rw[Array.getElem?_setIfInBounds_self_of_lt hlt]
  ·simp[SO hi,h2]
  ·simp[SO hi,h3]
  ·rw[Array.toList_push,List.pairwise_append]
   refine ⟨h4,List.pairwise_singleton _ _,fun x hx y hy=>?_⟩
   rw[List.mem_singleton.1 hy]
   exact h5 x hx
  ·intro e he
   rw[Array.toList_push,List.mem_append] at he
   rcases he with he|he
   ·exact Nat.lt_succ_of_lt (h5 e he)
   ·rw[List.mem_singleton.1 he];exact Nat.lt_succ_self _
 | some i =>
  obtain ⟨u,e1,e2⟩:=V1 hi
  have hset:∀ e,es.toList[i]?=some e→(es.modify i fun e=>{ e with key:=ek k,val:=ev v }).toList=es.toList.set i { e with key:=ek k,val:=ev v }:=fun e he=>by
   rw[Array.toList_modify,ChangeMaps.modify_eq_set _ _ _ _ he]
  obtain ⟨e0,he0⟩:∃ e,es.toList[i]?=some e:=by
   have:=congrArg (fun l:List Value=>l[i]?) h2
   simp only[List.getElem?_map,e1] at this
   cases hx:es.toList[i]? with
   | none=>rw[hx] at this;cases this
   | some e=>exact ⟨e,rfl⟩
  refine ⟨es.modify i fun e=>{ e with key:=ek k,val:=ev v },clock,?_,?_,?_,?_,?_⟩
  ·simp only[Zp,h1];rw[Array.getElem?_setIfInBounds_self_of_lt hlt]
  ·rw[hset e0 he0,List.map_set,h2,SR hi,List.map_set]
  ·rw[hset e0 he0,List.map_set,h3,SR hi,List.map_set]
  ·rw[hset e0 he0]
   have:(es.toList.set i { e0 with key:=ek k,val:=ev v }).map (·.born)=es.toList.map (·.born):=by
    rw[List.map_set]
    refine List.ext_getElem? fun j=>?_
    rw[List.getElem?_set]
    split
    ·rename_i hij
     subst hij
     split
     ·simp[he0]
     ·rename_i hl
      simp only[List.length_map] at hl
      rw[List.getElem?_eq_none (by simpa using hl)]
    ·rfl
   have hp:((es.toList.set i { e0 with key:=ek k,val:=ev v }).map (·.born)).Pairwise (·<·):=by rw[this];exact List.pairwise_map.2 h4
   exact List.pairwise_map.1 hp
  ·intro e he
   rw[hset e0 he0] at he
   rcases List.mem_or_eq_of_mem_set he with he|he
   ·exact h5 e he
   ·rw[he];exact h5 e0 (List.mem_of_getElem? he0)
theorem Z6.put_other (h:Z6 ek ev w b l) {c:Nat} (i:Option Nat) (k v:Value) (hne:b≠c):Z6 ek ev (Zp w c i k v) b l:=h.of_block (XP w c i k v b hne)
end maps
end Go.Proofs.YtlgipkemoldckaaGreatDoor
namespace Go.Proofs.YtlgipkemoldckaaGreatDoor
open Go.ChangeShapes Go.WideShapes Go.RowKit Go.Deep
theorem Tryz.own:ownKnob Tryz.prog.godebug=none:=by kernel_rfl
theorem Tj {α:Type} {p:Nat→α→Prop}:∀ (n:Nat),(∀ i,i<n→∃ x,p i x)→∃ l:List α,l.length=n∧∀ i x,l[i]?=some x→p i x
 | 0,_=>⟨[],rfl,fun i x h=>by simp at h⟩
 | n+1,h=>by
  obtain ⟨l,hl,hp⟩:=Tj n (fun i hi=>h i (by omega))
  obtain ⟨x,hx⟩:=h n (by omega)
  refine ⟨l++[x],by simp[hl],fun i y hy=>?_⟩
  by_cases hi:i<n
  ·rw[List.getElem?_append_left (by omega)] at hy
   exact hp i y hy
  ·rw[List.getElem?_append_right (by omega)] at hy
   have:i - l.length=0:=by
    have:=(List.getElem?_eq_some_iff.1 hy).1
    simp at this;omega
   rw[this] at hy
   cases hy
   have:i=n:=by omega
   subst this
   exact hx
def Z5 {α:Type} (enc:α→List Value) (k:Nat) (w:World) (v:Value) (l:List α):Prop :=
 ∃ a cap,v=.slice a l.length cap∧l.length≤cap∧cap≤maxLen∧(l≠[]→∃ b off,a=some ⟨b,off,none⟩∧∀ i x,l[i]?=some x→∀ j u,(enc x)[j]?=some u→w.cell? ⟨b,off+i*k+j,none⟩=some u)
theorem Z5.of {α:Type} {enc:α→List Value} {k:Nat} {w w':World} {v:Value} {l:List α} (h:Z5 enc k w v l) (hb:∀ b o u,w.cell? ⟨b,o,none⟩=some u→w'.cell? ⟨b,o,none⟩=some u):Z5 enc k w' v l:=by
 obtain ⟨a,cap,h1,h2,h3,h4⟩:=h
 refine ⟨a,cap,h1,h2,h3,fun hl=>?_⟩
 obtain ⟨b,off,h5,h6⟩:=h4 hl
 exact ⟨b,off,h5,fun i x hi j u hj=>hb _ _ _ (h6 i x hi j u hj)⟩
theorem Z5.below {α:Type} {enc:α→List Value} {k:Nat} {w w':World} {v:Value} {l:List α} (h:Z5 enc k w v l) (hb:Below w.heap.size w w'):Z5 enc k w' v l:=h.of (fun _ _ _ hu=>Z0 hb hu)
section
variable {H:Type} {enc:TypeId × Value→H} {P:Program} {w:World} {base:Nat} {spare:Nat→Bool} {held:Bool}
end
section
variable {H:Type} {enc:TypeId × Value→H} {w:World} {base:Nat} {spare:Nat→Bool} {held:Bool}
theorem Z3T {l:List Value} (h:l.length=2):∃ a b,l=[a,b]:=by
 match l,h with
 | [a,b],_=>exact ⟨a,b,rfl⟩
theorem YK {fuel:Nat} {cs:List Value} {x:DataW H × List MemPlace} (h:DataW.trod enc Tryz.prog w base spare held fuel 23 cs=some x):∃ s:St,cs=[.int .i64 s.n,.int .i64 s.r]:=by
 obtain ⟨xs,n,_,_,hlen,hxl,hf⟩:=DataW.trod_struct Tryz.underlying23 h
 have hc:Tryz.prog.cellsOf 23=2:=by kernel_rfl
 have hc3:Tryz.prog.cellsOf 3=1:=by kernel_rfl
 rw[hc] at hlen
 obtain ⟨a,b,rfl⟩:=Z3T hlen
 have f0:DataW.trod enc Tryz.prog w base spare held n 3 [a]=xs[0]?:=by simpa [hc3] using hf 0 _ rfl
 have f1:DataW.trod enc Tryz.prog w base spare held n 3 [b]=xs[1]?:=by simpa [hc3] using hf 1 _ rfl
 have e0:xs[0]?=some (xs[0]'(by simp at hxl;omega)):=List.getElem?_eq_getElem _
 have e1:xs[1]?=some (xs[1]'(by simp at hxl;omega)):=List.getElem?_eq_getElem _
 obtain ⟨p,hp,_⟩:=DataW.trod_int Tryz.underlying3 (f0.trans e0)
 obtain ⟨q,hq,_⟩:=DataW.trod_int Tryz.underlying3 (f1.trans e1)
 simp at hp hq
 exact ⟨⟨p,q⟩,by rw[hp,hq]⟩
end
end Go.Proofs.YtlgipkemoldckaaGreatDoor
namespace Go.Proofs.YtlgipkemoldckaaGreatDoor
open Go.RowKit
def Own {α:Type} (ea:α→List Value) (k:Nat) (e:TypeId) (base:Nat) (w:World) (v:Value) (l:List α):Prop:=w.ownsRow base e k v l.length (l.flatMap ea)
section
variable {α:Type} {ea:α→List Value} {k:Nat} {e:TypeId} {base:Nat} {w:World} {v:Value} {l:List α}
theorem Y5 (hk:∀ x,(ea x).length=k):∀ l:List α,(l.flatMap ea).length=l.length*k
 | []=>by simp
 | x :: l=>by rw[List.flatMap_cons,List.length_append,hk,Y5 hk l,List.length_cons,Nat.add_mul,Nat.one_mul,Nat.add_comm]
theorem getElem?_flatMap_k (hk:∀ x,(ea x).length=k):∀ (l:List α) (i:Nat) (x:α),l[i]?=some x→∀ j u,(ea x)[j]?=some u→(l.flatMap ea)[i*k+j]?=some u
 | [],i,x,h,_,_,_=>by simp at h
 | y :: l,0,x,h,j,u,hj=>by
  simp at h
  subst h
  have:=(List.getElem?_eq_some_iff.1 hj).1
  rw[List.flatMap_cons,Nat.zero_mul,Nat.zero_add,List.getElem?_append_left this]
  exact hj
 | y :: l,i+1,x,h,j,u,hj=>by
  have ih:=getElem?_flatMap_k hk l i x (by simpa using h) j u hj
  rw[List.flatMap_cons,List.getElem?_append_right (by rw[hk,Nat.add_mul];omega),hk]
  have:(i+1)*k+j - k=i*k+j:=by rw[Nat.add_mul];omega
  rw[this]
  exact ih
theorem Own.nil:Own ea k e base w (.slice none 0 0) ([]:List α):=⟨by simp,.inl ⟨rfl,rfl⟩⟩
theorem Own.alloc (h:Own ea k e base w v l) (o:Obj):Own ea k e base (w.alloc o) v l:=World.ownsRow.alloc h o
theorem Own.drew (h:Own ea k e base w v l):Own ea k e base w.drew v l:=h
theorem Own.blk (h:Own ea k e base w v l):∀ b,v.ownBlock=some b→base≤b∧b<w.heap.size:=World.ownsRow.lt h
theorem Own.ext {S:Nat→Prop} {w':World} (h:Own ea k e base w v l) (hx:Ext S w w') (hn:∀ b,v.ownBlock=some b→¬ S b):Own ea k e base w' v l:=by
 obtain ⟨h1,h2⟩:=h
 refine ⟨h1,h2.imp id ?_⟩
 rintro ⟨g,cap,cur,hv,hb,hg,h3⟩
 have hlt:=(Array.getElem?_eq_some_iff.1 hg).1
 exact ⟨g,cap,cur,hv,hb,(hx.block g hlt (hn g (by rw[hv];rfl))).trans hg,h3⟩
theorem Own.mono {b':Nat} (h:Own ea k e base w v l) (hb:b'≤base):Own ea k e b' w v l:=by
 obtain ⟨h1,h2⟩:=h
 refine ⟨h1,h2.imp id ?_⟩
 rintro ⟨g,cap,cur,hv,hb',h3⟩
 exact ⟨g,cap,cur,hv,by omega,h3⟩
theorem Own.slice (h:Own ea k e base w v l) (hk:∀ x,(ea x).length=k):Z5 ea k w v l:=by
 have h0:=h
 obtain ⟨h1,h2⟩:=h
 rcases h2 with ⟨rfl,hn⟩|⟨g,cap,cur,rfl,hb,hg,hnc,hcm,hcs,htake⟩
 ·have:l=[]:=List.eq_nil_of_length_eq_zero hn
  subst this
  exact ⟨none,0,rfl,Nat.le_refl _,Nat.zero_le _,fun hne=>absurd rfl hne⟩
 ·refine ⟨some ⟨g,0,none⟩,cap,rfl,hnc,hcm,fun _=>⟨g,0,rfl,fun i x hi j u hj=>?_⟩⟩
  have hil:=(List.getElem?_eq_some_iff.1 hi).1
  have hjl:=(List.getElem?_eq_some_iff.1 hj).1
  rw[hk] at hjl
  have hlt:i*k+j<l.length*k:=by
   have:=Nat.mul_le_mul_right k (show i+1≤l.length from hil)
   rw[Nat.add_mul,Nat.one_mul] at this
   omega
  have:=World.ownsRow.cellAt h0 (i*k+j) hlt
  rw[getElem?_flatMap_k hk l i x hi j u hj] at this
  rw[Nat.zero_add]
  exact this
theorem Own.tag (h:Own ea k e base w v l) {b:Nat} (hb:v.ownBlock=some b):∃ cur,w.heap[b]?=some (.cells cur e (0,0)):=by
 obtain ⟨_,h3⟩:=h
 rcases h3 with ⟨h3,_⟩|⟨g,cap,cur,h3,_,hg,_⟩
 ·rw[h3] at hb;cases hb
 ·rw[h3] at hb;cases hb;exact ⟨cur,hg⟩
theorem Own.eq_slice (h:Own ea k e base w v l):(v=.slice none 0 0∧l=[])∨∃ g cap,v=.slice (some ⟨g,0,none⟩) l.length cap∧base≤g∧g<w.heap.size:=by
 obtain ⟨h1,h2⟩:=h
 rcases h2 with ⟨rfl,hn⟩|⟨g,cap,cur,rfl,hb,hg,h3⟩
 ·exact .inl ⟨rfl,List.eq_nil_of_length_eq_zero hn⟩
 ·exact .inr ⟨g,cap,rfl,hb,(Array.getElem?_eq_some_iff.1 hg).1⟩
theorem Ext.of_grown {w w':World} {row:Option Nat} (h:w.grownBy w' row):Ext (fun b=>row=some b) w w' :=
 ⟨h.os,h.tape,h.output,h.size,fun b hb hn=>h.block b hb (fun e=>hn e.symm)⟩
theorem Zq {P:Program} {ops:Array Oper} {rest:List Oper} {o:Oper} {a:Act} {Q:Exit→Act→World→Prop} (hgd:o.guard=none) (s x:Operand) (t:TypeId)
  (ho:o.op=.call { callee:=.builtin .append,args:=#[s,x],argTypes:=#[t,t] })
  (i:TypeInfo) (z:Value) (bytes:Nat) (ht:P.underlying t=some (.slice e)) (hi:P.info? e=some i) (hz:i.zero=some z)
  (hsize:i.size=k) (hby:i.bytes=bytes) (hzs:z.cells.size=k) (hk0:0<k) (hk:∀ x,(ea x).length=k) (h1:∀ x,∀ u∈ea x,u.oneCell'=true)
  (hs:a.eval s=v) (hown:Own ea k e base w v l) (y:α) (nb c:Nat) (hx:a.eval x=.slice (some ⟨nb,0,none⟩) 1 c) (hnews:∀ j u,(ea y)[j]?=some u→w.cell? ⟨nb,j,none⟩=some u)
  (h63:l.length+1≤maxLen) (hbytes:(l.length+1)*bytes≤140737488355328) (hbase:base≤w.heap.size)
  (h:∀ v' w',Own ea k e base w' v' (l++[y])→Ext (fun b=>v.ownBlock=some b) w w'→wpList P ops Q rest (a.put o.dst v') w'):wpList P ops Q (o :: rest) a w:=by
 refine wpList_append_own w hgd s x t ho base e i z k bytes ht hi hz hsize hby hzs hk0 v l.length (l.flatMap ea) hs hown ⟨nb,0,none⟩ 1 c (ea y) hx (by rw[hk,Nat.one_mul]) (fun j u hj=>?_) (h1 y) h63 hbytes hbase (fun v' w' h2 h3 _=>h v' w' ?_ (Ext.of_grown h3))
 ·have:=hnews j u hj
  rw[show (Addr.add ⟨nb,0,none⟩ j)=⟨nb,j,none⟩ from by unfold Addr.add;split <;> simp_all]
  exact this
 ·unfold Own
  rw[List.length_append,List.flatMap_append]
  simpa using h2
theorem V5 {P:Program} {ops:Array Oper} {o:Oper} {a:Act} {K:Act→World→Prop} {Q:Exit→Act→World→Prop} {E:Prop} (hgd:o.guard=none) (s x:Operand) (t:TypeId)
  (ho:o.op=.call { callee:=.builtin .append,args:=#[s,x],argTypes:=#[t,t] })
  (i:TypeInfo) (z:Value) (bytes:Nat) (ht:P.underlying t=some (.slice e)) (hi:P.info? e=some i) (hz:i.zero=some z)
  (hsize:i.size=k) (hby:i.bytes=bytes) (hzs:z.cells.size=k) (hk0:0<k) (hk:∀ x,(ea x).length=k) (h1:∀ x,∀ u∈ea x,u.oneCell'=true)
  (hs:a.eval s=v) (hown:Own ea k e base w v l) (y:α) (nb c:Nat) (hx:a.eval x=.slice (some ⟨nb,0,none⟩) 1 c) (hnews:∀ j u,(ea y)[j]?=some u→w.cell? ⟨nb,j,none⟩=some u)
  (h63:l.length+1≤maxLen) (hbytes:(l.length+1)*bytes≤140737488355328) (hbase:base≤w.heap.size)
  (h:∀ v' w',Own ea k e base w' v' (l++[y])→Ext (fun b=>v.ownBlock=some b) w w'→K (a.put o.dst v') w'):if Region.wanted o (yielded ops a.tmps)=true then Oper.wp P o a w K Q else E:=by
 have hw:Region.wanted o (yielded ops a.tmps)=true:=by simp[Region.wanted,hgd]
 rw[if_pos hw]
 refine wp_append_own w s x t ho base e i z k bytes ht hi hz hsize hby hzs hk0 v l.length (l.flatMap ea) hs hown ⟨nb,0,none⟩ 1 c (ea y) hx (by rw[hk,Nat.one_mul]) (fun j u hj=>?_) (h1 y) h63 hbytes hbase (fun v' w' h2 h3 _=>h v' w' ?_ (Ext.of_grown h3))
 ·have:=hnews j u hj
  rw[show (Addr.add ⟨nb,0,none⟩ j)=⟨nb,j,none⟩ from by unfold Addr.add;split <;> simp_all]
  exact this
 ·unfold Own
  rw[List.length_append,List.flatMap_append]
  simpa using h2
end
theorem VX {K V:Type} [DecidableEq K] {P:Program} {kt:TypeId} {ek:K→Value} (heq:∀ a b (w:World),(Op.equal kt (ek a) (ek b)).run P w=.ok (decide (a=b)) w) (k:K) (w:World) :
  ∀ (es:List MapEntry) (l:List (K × V)) (i:Nat),es.map (·.key)=l.map (fun p=>ek p.1) →
  (Instr.findAsking kt (ek k) es i).run P w=.ok ((Zr l k).map fun j=>(i+j,((es[j]?).map (·.val)).getD undef)) w
 | [],[],i,_=>by simp[Instr.findAsking,Zr]
 | [],_ :: _,_,h=>by simp at h
 | _ :: _,[],_,h=>by simp at h
 | e :: es,p :: l,i,h=>by
  obtain ⟨k',v⟩:=p
  simp only[List.map_cons,List.cons.injEq] at h
  obtain ⟨h1,h2⟩:=h
  have ih:=VX heq k w es l (i+1) h2
  simp only[Instr.findAsking,Sem.run_bind,h1,heq k k' w,Result.andThen_ok,Sem.run_ite]
  by_cases hk:k'=k
  ·subst hk
   simp[Zr]
  ·have hk':¬ k=k':=fun e=>hk e.symm
   simp only[hk',decide_false,Bool.false_eq_true,if_false,ih,Zr,hk]
   cases Zr l k with
   | none=>rfl
   | some j=>simp[Nat.add_assoc,Nat.add_comm 1 j]
theorem WF.of_equal {K V:Type} [DecidableEq K] {P:Program} {kt:TypeId} {ek:K→Value} {fs:Array Field} (hu:P.underlying kt=some (.struct fs))
  (hagg:∀ a,∃ cs,ek a=.agg cs)
  (check:∀ (em:Bool) (k:K) (w:World),(Instr.checkKey em 10000 kt (ek k)).run P w=.ok () w)
  (heq:∀ a b (w:World),(Op.equal kt (ek a) (ek b)).run P w=.ok (decide (a=b)) w)
  (hsame:∀ a,Instr.sameBits 10000 (ek a) (ek a)=true):WF (V:=V) P kt ek:=by
 refine ⟨check,fun k es l w h=>?_,fun k w=>by simp[Instr.keyThatStays,hsame]⟩
 cases es with
 | nil =>
  cases l with
  | nil=>simp[Instr.findKey,run_underlying hu,Instr.findNow,Zr]
  | cons p l=>simp at h
 | cons e es =>
  have hn:Instr.findNow (.struct fs) (ek k) (e :: es) 0=none:=by
   obtain ⟨cs,hc⟩:=hagg k
   simp[Instr.findNow,hc,Instr.sameNow]
  have:=VX (V:=V) heq k w (e :: es) l 0 h
  simp only[Instr.findKey,Sem.run_bind,run_underlying hu,Result.andThen_ok,hn]
  rw[this]
  simp
theorem ZH (a b:Int) (w:World) :
  Calls Tryz.prog 32 #[.agg #[.int .i64 a,.int .i64 b]] w
   fun e w'=>e=.returned (.bool (Z7 ⟨a,b⟩))∧Below w.heap.size w w':=by
 by_cases h1:1≤a
 ·by_cases h2:a≤1048576
  ·by_cases h3:0≤b
   ·by_cases h4:b<8
    ·have hr:Z7 ⟨a,b⟩=true:=by simp only[Z7,decide_eq_true_eq];exact ⟨h1,h2,h3,h4⟩
     rw[hr];clear hr
     go_enter Tryz.func32,Tryz.ntmps32
     go_wp2
     go_ret
     exact ⟨rfl,(Below.refl _ _).alloc (Nat.le_refl _) _⟩
    ·have hr:Z7 ⟨a,b⟩=false:=by simp only[Z7,decide_eq_false_iff_not];omega
     rw[hr];clear hr
     go_enter Tryz.func32,Tryz.ntmps32
     go_wp2
     go_ret
     exact ⟨rfl,(Below.refl _ _).alloc (Nat.le_refl _) _⟩
   ·have hr:Z7 ⟨a,b⟩=false:=by simp only[Z7,decide_eq_false_iff_not];omega
    rw[hr];clear hr
    go_enter Tryz.func32,Tryz.ntmps32
    go_wp2
    go_ret
    exact ⟨rfl,(Below.refl _ _).alloc (Nat.le_refl _) _⟩
  ·have hr:Z7 ⟨a,b⟩=false:=by simp only[Z7,decide_eq_false_iff_not];omega
   rw[hr];clear hr
   go_enter Tryz.func32,Tryz.ntmps32
   go_wp2
   go_ret
   exact ⟨rfl,(Below.refl _ _).alloc (Nat.le_refl _) _⟩
 ·have hr:Z7 ⟨a,b⟩=false:=by simp only[Z7,decide_eq_false_iff_not];omega
  rw[hr];clear hr
  go_enter Tryz.func32,Tryz.ntmps32
  go_wp2
  go_ret
  exact ⟨rfl,(Below.refl _ _).alloc (Nat.le_refl _) _⟩
theorem Ts (a b c d:Int):Yd ⟨a,b⟩ ⟨c,d⟩=if a<c then -1 else if c<a then 1 else if b<d then -1 else if d<b then 1 else 0:=by
 unfold Yd WU
 by_cases h1:a<c
 ·simp[h1]
 ·by_cases h2:c<a
  ·simp[h1,h2]
  ·simp[h1,h2]
theorem X4 (a b c d:Int) (w:World) :
  Calls Tryz.prog 23 #[.agg #[.int .i64 a,.int .i64 b],.agg #[.int .i64 c,.int .i64 d]] w
   fun e w'=>e=.returned (.int .i64 (Yd ⟨a,b⟩ ⟨c,d⟩))∧Below w.heap.size w w':=by
 rw[Ts]
 by_cases h1:a<c
 ·rw[if_pos h1]
  go_enter Tryz.func23,Tryz.ntmps23
  go_wp2
  go_ret
  exact ⟨rfl,((Below.refl _ _).alloc (Nat.le_refl _) _).alloc (by simp) _⟩
 ·by_cases h2:c<a
  ·rw[if_neg h1,if_pos h2]
   go_enter Tryz.func23,Tryz.ntmps23
   go_wp2
   go_ret
   exact ⟨rfl,((Below.refl _ _).alloc (Nat.le_refl _) _).alloc (by simp) _⟩
  ·by_cases h3:b<d
   ·rw[if_neg h1,if_neg h2,if_pos h3]
    go_enter Tryz.func23,Tryz.ntmps23
    go_wp2
    go_ret
    exact ⟨rfl,((Below.refl _ _).alloc (Nat.le_refl _) _).alloc (by simp) _⟩
   ·by_cases h4:d<b
    ·rw[if_neg h1,if_neg h2,if_neg h3,if_pos h4]
     go_enter Tryz.func23,Tryz.ntmps23
     go_wp2
     go_ret
     exact ⟨rfl,((Below.refl _ _).alloc (Nat.le_refl _) _).alloc (by simp) _⟩
    ·rw[if_neg h1,if_neg h2,if_neg h3,if_neg h4]
     go_enter Tryz.func23,Tryz.ntmps23
     go_wp2
     go_ret
     exact ⟨rfl,((Below.refl _ _).alloc (Nat.le_refl _) _).alloc (by simp) _⟩
theorem WA (a b:St):Yd a b<0↔a.n<b.n∨(a.n=b.n∧a.r<b.r):=by
 unfold Yd WU
 by_cases h1:a.n<b.n
 ·simp[h1]
 ·by_cases h2:b.n<a.n
  ·simp[h1,h2];omega
  ·have:a.n=b.n:=by omega
   by_cases h3:a.r<b.r
   ·simp[h1,h2,h3,this]
   ·by_cases h4:b.r<a.r <;> simp[h1,h2,h3,h4,this]
def ZK (a b:St):Prop:=a.n<b.n∨(a.n=b.n∧a.r<b.r)
theorem Zm (a:St):¬ ZK a a:=by unfold ZK;omega
theorem ZC {a b c:St} (h:ZK a b) (k:ZK b c):ZK a c:=by unfold ZK at *;omega
theorem Y8 (a b:St):ZK a b∨a=b∨ZK b a:=by
 unfold ZK
 by_cases h:a=b
 ·exact .inr (.inl h)
 ·have:¬ (a.n=b.n∧a.r=b.r):=fun e=>h (by cases a;cases b;simp_all)
  omega
theorem UJ {a:St} (h:Z7 a=true):ZK ⟨0,0⟩ a:=by
 simp only[Z7,decide_eq_true_eq] at h
 exact .inl (by show (0:Int)<a.n;omega)
theorem T4 (a b:St):0<Yd a b↔ZK b a:=by
 rw[show a=⟨a.n,a.r⟩ from rfl,show b=⟨b.n,b.r⟩ from rfl,Ts]
 unfold ZK
 simp only
 split
 ·constructor <;> intro h <;> omega
 ·split
  ·constructor <;> intro h <;> omega
  ·split
   ·constructor <;> intro h <;> omega
   ·split
    ·constructor <;> intro h <;> omega
    ·constructor <;> intro h <;> omega
structure Ch where
 block:St
 under:St
 key:ByteArray
 deriving DecidableEq
def Ch.cells (c:Ch):List Value:=[.int .i64 c.block.n,.int .i64 c.block.r,.int .i64 c.under.n,.int .i64 c.under.r,.string c.key]
structure Mv where
 at_:St
 child:Ch
 took:Bool
 was:Option Nat
def Z3U (l:List Mv):Prop:=l.Pairwise (fun a b=>ZK a.at_ b.at_)
section
variable {K V:Type} [DecidableEq K] {ek:K→Value} {ev:V→Value}
def ZL (ek:K→Value) (ev:V→Value) (w:World) (r b:Nat) (l left:List (K × V)) (cur:Option (K × V)):Prop :=
 (l.map (·.1)).Nodup∧∃ es clock seen,w.heap[b]?=some (.map es clock)∧w.heap[r]?=some (.mapIter (some b) clock seen clock) ∧
  es.toList.map (·.key)=l.map (fun p=>ek p.1)∧es.toList.map (·.val)=l.map (fun p=>ev p.2) ∧
  es.toList.Pairwise (fun x y=>x.born<y.born)∧(∀ e∈es.toList,e.born<clock) ∧
  ((es.toList.zip l).filter (fun x=>!seen.contains x.1.born)).map (·.2)=left ∧
  (∀ p,cur=some p→∃ e,(e,p)∈es.toList.zip l∧seen.back?=some e.born)
theorem ZL.of_blocks {w w':World} {r b:Nat} {l left:List (K × V)} {cur:Option (K × V)} (h:ZL ek ev w r b l left cur) (hr:w'.heap[r]?=w.heap[r]?) (hb:w'.heap[b]?=w.heap[b]?):ZL ek ev w' r b l left cur:=by
 obtain ⟨hn,es,clock,seen,h1,h2,h3⟩:=h
 exact ⟨hn,es,clock,seen,hb.trans h1,hr.trans h2,h3⟩
theorem ZL.lt {w:World} {r b:Nat} {l left:List (K × V)} {cur:Option (K × V)} (h:ZL ek ev w r b l left cur):r<w.heap.size∧b<w.heap.size:=by
 obtain ⟨hn,es,clock,seen,h1,h2,h3⟩:=h
 exact ⟨(Array.getElem?_eq_some_iff.1 h2).1,(Array.getElem?_eq_some_iff.1 h1).1⟩
theorem ZL.alloc {w:World} {r b:Nat} {l left:List (K × V)} {cur:Option (K × V)} (h:ZL ek ev w r b l left cur) (o:Obj):ZL ek ev (w.alloc o) r b l left cur :=
 h.of_blocks (Below.heap_alloc _ _ _ h.lt.1) (Below.heap_alloc _ _ _ h.lt.2)
theorem ZL.ext {S:Nat→Prop} {w w':World} {r b:Nat} {l left:List (K × V)} {cur:Option (K × V)} (h:ZL ek ev w r b l left cur) (hx:Ext S w w') (h1:¬ S r) (h2:¬ S b):ZL ek ev w' r b l left cur :=
 h.of_blocks (hx.block r h.lt.1 h1) (hx.block b h.lt.2 h2)
theorem Z0r {es:List MapEntry} {l:List (K × V)} (h:es.map (·.key)=l.map (fun p=>ek p.1)):(es.zip l).map (·.2)=l:=by
 have:=congrArg List.length h
 simp only[List.length_map] at this
 rw[List.map_snd_zip]
 omega
theorem Z6.range {P:Program} {w:World} {b:Nat} {l:List (K × V)} {mt kt et:TypeId} (h:Z6 ek ev w b l) (hm:P.underlying mt=some (.map kt et)) :
  ∃ w',(Instr.range mt (.map (some b))).run P w=.ok (.pointer (some ⟨w.heap.size,0,none⟩)) w'∧ZL ek ev w' w.heap.size b l l none∧Below w.heap.size w w'∧w'.heap.size=w.heap.size+1:=by
 have hlt:=h.lt
 obtain ⟨hn,es,clock,h1,h2,h3,h4,h5⟩:=h
 refine ⟨w.alloc (.mapIter (some b) clock #[] clock),?_,⟨hn,es,clock,#[],?_,?_,h2,h3,h4,h5,?_,?_⟩,(Below.refl _ _).alloc (Nat.le_refl _) _,by simp⟩
 ·simp[Instr.range,run_underlying hm,ZA h1,Result.andThen]
 ·rw[Below.heap_alloc _ _ _ hlt];exact h1
 ·show (w.heap.push _)[w.heap.size]?=_
  simp
 ·rw[List.filter_eq_self.2 (by simp)]
  exact Z0r h2
 ·intro p hp;cases hp
theorem Z0z {es:List MapEntry} {l:List (K × V)} (h:es.map (·.key)=l.map (fun p=>ek p.1)):(es.zip l).map (·.1)=es:=by
 have:=congrArg List.length h
 simp only[List.length_map] at this
 rw[List.map_fst_zip]
 omega
theorem RP {es:List MapEntry} {l:List (K × V)} (hp:es.Pairwise (fun x y=>x.born<y.born)):(es.zip l).Pairwise (fun x y=>x.1.born<y.1.born):=by
 induction es generalizing l with
 | nil=>simp
 | cons e es ih =>
  cases l with
  | nil=>simp
  | cons q l =>
   rw[List.zip_cons_cons]
   rw[List.pairwise_cons] at hp ⊢
   refine ⟨fun y hy=>hp.1 y.1 (List.of_mem_zip hy).1,ih hp.2⟩
theorem ZL.next1 {P:Program} {w:World} {r b:Nat} {l left:List (K × V)} {cur:Option (K × V)} {ty:TypeId} (h:ZL ek ev w r b l left cur) (hrb:r≠b) :
  (left=[]∧(Instr.next (.pointer (some ⟨r,0,none⟩)) false ty).run P w=.ok (.tuple #[.bool false]) w) ∨
  ∃ i p w',left[i]?=some p∧(Instr.next (.pointer (some ⟨r,0,none⟩)) false ty).run P w=.ok (.tuple #[.bool true,ek p.1,ev p.2]) w'∧ZL ek ev w' r b l (left.eraseIdx i) (some p)∧Ext (·=r) w w'∧w'.heap.size=w.heap.size:=by
 have hlt:=h.lt
 obtain ⟨hn,es,clock,seen,h1,h2,h3,h4,h5,h6,h7,h8⟩:=h
 have hz:=Z0z h3
 have hgr:(getObj r).run P w=.ok (.mapIter (some b) clock seen clock) w:=by simp[getObj,Sem.run,h2]
 have hgb:(getObj b).run P w=.ok (.map es clock) w:=ZA h1
 have hold:(es.filter fun e=>!seen.contains e.born).filter (fun e=>decide (e.born<clock))=es.filter fun e=>!seen.contains e.born:=by
  rw[Array.filter_eq_self]
  intro e he
  simp only[decide_eq_true_eq]
  exact h6 e (by simpa using (Array.mem_filter.1 he).1)
 have hnew:(es.filter fun e=>!seen.contains e.born).filter (fun e=>decide (e.born≥clock))=#[]:=by
  rw[Array.filter_eq_empty_iff]
  intro e he
  simp only[decide_eq_true_eq]
  have:=h6 e (by simpa using (Array.mem_filter.1 he).1)
  omega
 have hall:(!seen.isEmpty && !es.isEmpty && es.all fun e=>decide (e.born≥clock))=false:=by
  cases hes:es.isEmpty with
  | true=>simp
  | false =>
   simp only[Bool.not_false,Bool.and_true]
   rw[Bool.and_eq_false_iff]
   right
   have h0:0<es.size:=by
    rw[Array.isEmpty_eq_false_iff] at hes
    exact Array.size_pos_iff.2 hes
   have:=h6 es[0] (by simp)
   cases hq:es.all fun e=>decide (e.born≥clock) with
   | false=>rfl
   | true =>
    rw[Array.all_eq_true] at hq
    have:=hq 0 h0
    simp at this
    omega
 have hleft:left.map (fun p=>p)=left:=List.map_id' _
 generalize hF:(es.toList.zip l).filter (fun x=>!seen.contains x.1.born)=F at h7
 have hFes:(es.filter fun e=>!seen.contains e.born).toList=F.map (·.1):=by
  rw[Array.toList_filter,←hF]
  conv=>lhs;rw[←hz]
  rw[List.filter_map]
  rfl
 by_cases hemp:left=[]
 ·left
  refine ⟨hemp,?_⟩
  have hFnil:F=[]:=by rw[hemp] at h7;exact List.map_eq_nil_iff.1 h7
  have he:es.filter (fun e=>!seen.contains e.born)=#[]:=by
   apply Array.toList_inj.1
   rw[hFes,hFnil]
   rfl
  simp only[Instr.next,Sem.run_bind,hgr,Result.andThen_ok,hgb,hall,Bool.false_eq_true,if_false,Sem.run_pure]
  rw[hold,hnew,he]
  simp[Question.forced]
 ·right
  have hne:F≠[]:=fun e=>hemp (by rw[←h7,e];rfl)
  have hpos:0<F.length:=List.length_pos_iff.2 hne
  have hemp2:(es.filter fun e=>!seen.contains e.born).isEmpty=false:=by
   rw[Array.isEmpty_eq_false_iff]
   intro e
   have:=congrArg Array.toList e
   rw[hFes] at this
   exact hne (List.map_eq_nil_iff.1 this)
  have key:∀ i (hi:i<F.length) (w0:World),w0.heap=w.heap→w0.os=w.os→w0.tape=w.tape→w0.output=w.output →
    ∃ p w',left[i]?=some p∧(do setObj r (.mapIter (some b) clock (seen.push (F[i]'hi).1.born) clock);pure (Value.tuple #[.bool true,(F[i]'hi).1.key,(F[i]'hi).1.val]):Sem Value).run P w0=.ok (.tuple #[.bool true,ek p.1,ev p.2]) w'∧ZL ek ev w' r b l (left.eraseIdx i) (some p)∧Ext (·=r) w w'∧w'.heap.size=w.heap.size:=by
   intro i hi w0 g1 g2 g3 g4
   obtain ⟨e,p,hep⟩:∃ e p,F[i]'hi=(e,p):=⟨_,_,rfl⟩
   rw[hep]
   have hmem:(e,p)∈es.toList.zip l:=by
    have:(e,p)∈F:=by rw[←hep];exact List.getElem_mem hi
    rw[←hF] at this
    exact (List.mem_filter.1 this).1
   obtain ⟨q,hq⟩:=List.getElem?_of_mem hmem
   rw[List.getElem?_zip_eq_some] at hq
   have hk:e.key=ek p.1:=by
    have:=congrArg (fun l:List Value=>l[q]?) h3
    simpa [hq.1,hq.2] using this
   have hv:e.val=ev p.2:=by
    have:=congrArg (fun l:List Value=>l[q]?) h4
    simpa [hq.1,hq.2] using this
   have hFi:F[i]?=some (e,p):=by rw[List.getElem?_eq_getElem hi,hep]
   have hr0:w0.heap[r]?=some (.mapIter (some b) clock seen clock):=by rw[g1];exact h2
   refine ⟨p,{ w0 with heap:=w0.heap.setIfInBounds r (.mapIter (some b) clock (seen.push e.born) clock) },?_,?_,?_,⟨g2,g3,g4,by simp[g1],fun k hk' hkr=>?_⟩,by simp[g1]⟩
   ·rw[←h7,List.getElem?_map,hFi];rfl
   ·have:(setObj r (.mapIter (some b) clock (seen.push e.born) clock)).run P w0=.ok () { w0 with heap:=w0.heap.setIfInBounds r (.mapIter (some b) clock (seen.push e.born) clock) }:=by simp[setObj,Sem.run,hr0]
    simp only[Sem.run_bind,this,Result.andThen_ok,Sem.run_pure,hk,hv]
   ·refine ⟨hn,es,clock,seen.push e.born,?_,?_,h3,h4,h5,h6,?_,?_⟩
    ·show (w0.heap.setIfInBounds r _)[b]?=_
     rw[Array.getElem?_setIfInBounds_ne hrb,g1];exact h1
    ·show (w0.heap.setIfInBounds r _)[r]?=_
     rw[Array.getElem?_setIfInBounds_self_of_lt (by rw[g1];exact hlt.1)]
    ·have e1:(es.toList.zip l).filter (fun x=>!(seen.push e.born).contains x.1.born)=F.filter (fun x=>!(x.1.born == e.born)):=by
      rw[←hF,List.filter_filter]
      refine List.filter_congr fun x _=>?_
      simp only[Array.contains_push,Bool.not_or]
      rw[Bool.and_comm]
     have hpw:F.Pairwise (fun x y=>x.1.born<y.1.born):=by rw[←hF];exact (RP h5).filter _
     rw[e1,ChangeMaps.filter_eq_eraseIdx (fun x:MapEntry × (K × V)=>x.1.born == e.born) F i (e,p) hFi (by simp) (hpw.imp (fun {x y} hxy ⟨a,c⟩=>by simp at a c;omega)),ChangeMaps.map_eraseIdx,h7]
    ·intro p' hp'
     cases hp'
     exact ⟨e,hmem,by simp⟩
   ·show (w0.heap.setIfInBounds r _)[k]?=_
    rw[Array.getElem?_setIfInBounds_ne (fun e=>hkr e.symm),g1]
  have hsz:((es.filter fun (e:MapEntry)=>!seen.contains e.born).map some).size=F.length:=by
   have:=congrArg List.length hFes
   rw[Array.size_map]
   rw[←Array.length_toList,hFes,List.length_map]
  have hget:∀ i (hi:i<F.length),((es.filter fun (e:MapEntry)=>!seen.contains e.born).map some)[i]?=some (some (F[i]'hi).1):=by
   intro i hi
   rw[Array.getElem?_map,←Array.getElem?_toList,hFes,List.getElem?_map,List.getElem?_eq_getElem hi]
   rfl
  have hrun:∀ i (hi:i<F.length) w0,(choose (.mapNext F.length)).run P w=.ok i w0→(Instr.next (.pointer (some ⟨r,0,none⟩)) false ty).run P w =
    (do setObj r (.mapIter (some b) clock (seen.push (F[i]'hi).1.born) clock);pure (Value.tuple #[.bool true,(F[i]'hi).1.key,(F[i]'hi).1.val]):Sem Value).run P w0:=by
   intro i hi w0 hc
   simp only[Instr.next,Sem.run_bind,hgr,Result.andThen_ok,hgb,hall,Bool.false_eq_true,if_false,Sem.run_pure]
   rw[hold,hnew,hemp2]
   simp only[Bool.false_eq_true,if_false,Array.empty_append,Array.append_empty]
   rw[hsz,hc,Result.andThen_ok,hget i hi]
   simp only[Sem.run_bind,Sem.run_pure]
  by_cases hforced:F.length≤1
  ·obtain ⟨p,w',k1,k2,k3⟩:=key 0 hpos w rfl rfl rfl rfl
   refine ⟨0,p,w',k1,?_,k3⟩
   rw[←k2]
   exact hrun 0 hpos w (by rw[run_choose_drew,if_pos (by simp[Question.forced,hforced])])
  ·obtain ⟨p,w',k1,k2,k3⟩:=key (w.tape w.drawn (.mapNext F.length) % F.length) (Nat.mod_lt _ hpos) w.drew rfl rfl rfl rfl
   refine ⟨_,p,w',k1,?_,k3⟩
   rw[←k2]
   exact hrun _ (Nat.mod_lt _ hpos) w.drew (by rw[run_choose_drew,if_neg (by simp[Question.forced];omega)];rfl)
theorem ZL.next {P:Program} {w:World} {r b:Nat} {l left:List (K × V)} {cur:Option (K × V)} (h:ZL ek ev w r b l left cur) (hrb:r≠b) :
  (left=[]∧∀ ty,(Instr.next (.pointer (some ⟨r,0,none⟩)) false ty).run P w=.ok (.tuple #[.bool false]) w) ∨
  ∃ i p w',left[i]?=some p∧(∀ ty,(Instr.next (.pointer (some ⟨r,0,none⟩)) false ty).run P w=.ok (.tuple #[.bool true,ek p.1,ev p.2]) w')∧ZL ek ev w' r b l (left.eraseIdx i) (some p)∧Ext (·=r) w w'∧w'.heap.size=w.heap.size:=by
 rcases h.next1 (P:=P) (ty:=0) hrb with ⟨h1,h2⟩|⟨i,p,w',h1,h2,h3⟩
 ·exact .inl ⟨h1,fun _=>h2⟩
 ·exact .inr ⟨i,p,w',h1,fun _=>h2,h3⟩
theorem ZL.entry {P:Program} {w:World} {r b:Nat} {l left:List (K × V)} {p:K × V} (h:ZL ek ev w r b l left (some p)) :
  (Instr.entry (.pointer (some ⟨r,0,none⟩))).run P w=.ok (.tuple #[ek p.1,ev p.2]) w:=by
 obtain ⟨hn,es,clock,seen,h1,h2,h3,h4,h5,h6,h7,h8⟩:=h
 obtain ⟨e,hmem,hback⟩:=h8 p rfl
 obtain ⟨q,hq⟩:=List.getElem?_of_mem hmem
 rw[List.getElem?_zip_eq_some] at hq
 have hk:e.key=ek p.1:=by
  have:=congrArg (fun l:List Value=>l[q]?) h3
  simpa [hq.1,hq.2] using this
 have hv:e.val=ev p.2:=by
  have:=congrArg (fun l:List Value=>l[q]?) h4
  simpa [hq.1,hq.2] using this
 have hgr:(getObj r).run P w=.ok (.mapIter (some b) clock seen clock) w:=by simp[getObj,Sem.run,h2]
 have hgb:(getObj b).run P w=.ok (.map es clock) w:=ZA h1
 have hfind:es.find? (fun x=>x.born == e.born)=some e:=by
  rw[←Array.find?_toList]
  rw[List.find?_eq_some_iff_getElem]
  obtain ⟨hq',hqe⟩:=List.getElem?_eq_some_iff.1 hq.1
  refine ⟨by simp,q,hq',hqe,fun j hj=>?_⟩
  have hj':j<es.toList.length:=by omega
  have:=List.pairwise_iff_getElem.1 h5 j q hj' hq' hj
  rw[hqe] at this
  simp
  simp at this
  omega
 simp[Instr.entry,hgr,hgb,hback,hfind,hk,hv,Result.andThen]
end
abbrev Zk:=St→Option Ch
inductive Up (h:Zk):St→St→Prop
 | refl (u:St):Up h u u
 | step {u b:St} {c:Ch}:h u=some c→Up h c.under b→Up h u b
def Y9 (h:Zk):Nat→St→Prop
 | 0,u=>h u=none
 | n+1,u=>∃ c,h u=some c∧Y9 h n c.under
def XI (h:Zk):Prop:=∀ u,∃ n,Y9 h n u
theorem Z3C {h:Zk} {u b:St} (hn:h u=none) (hne:u≠b):¬ Up h u b:=by
 intro hu
 cases hu with
 | refl=>exact hne rfl
 | step hc _=>rw[hn] at hc;cases hc
theorem Z3g {h:Zk} {u b:St} {c:Ch} (hc:h u=some c) (hne:u≠b):Up h u b↔Up h c.under b:=by
 constructor
 ·intro hu
  cases hu with
  | refl=>exact absurd rfl hne
  | step hc' k=>rw[hc] at hc';cases hc';exact k
 ·exact fun k=>.step hc k
def Va (h:Zk) (b:St) (c:Ch):Zk:=fun k=>if k=b then some c else h k
theorem Wv (h:Zk) (b:St) (c:Ch):Va h b c b=some c:=by simp[Va]
theorem Xd (h:Zk) {b k:St} (c:Ch) (hk:k≠b):Va h b c k=h k:=by simp[Va,hk]
open Classical in
noncomputable def WD (h:Zk) (c:Ch):Bool:=!(decide (Up h c.under c.block))
open Classical in
noncomputable def Xt (h:Zk) (c:Ch):Zk:=if Up h c.under c.block then h else Va h c.block c
theorem Ub {h:Zk} {c:Ch} (ht:WD h c=true):Xt h c=Va h c.block c:=by
 simp only[WD,Bool.not_eq_true',decide_eq_false_iff_not] at ht
 rw[Xt,if_neg ht]
theorem UA {h:Zk} {c:Ch} (ht:WD h c=false):Xt h c=h:=by
 simp only[WD,Bool.not_eq_false',decide_eq_true_eq] at ht
 rw[Xt,if_pos ht]
noncomputable def UL (cs:List Ch):Zk:=cs.foldl Xt (fun _=>none)
theorem Z23 (cs:List Ch) (c:Ch):UL (cs++[c])=Xt (UL cs) c:=by simp[UL]
theorem Ua {h:Zk} {b:St} {c:Ch}:∀ (n:Nat) (u:St),Y9 h n u→¬ Up h u b→Y9 (Va h b c) n u
 | 0,u,he,hu=>by
  show Va h b c u=none
  rw[Xd h c (fun e=>hu (by rw[e];exact .refl _))];exact he
 | n+1,u,⟨d,hd,he⟩,hu=>by
  refine ⟨d,?_,Ua n d.under he (fun k=>hu (.step hd k))⟩
  rw[Xd h c (fun e=>hu (by rw[e];exact .refl _))];exact hd
theorem Z2Q:XI (fun _=>none):=fun u=>⟨0,rfl⟩
theorem Z1x {h:Zk} (ha:XI h) (c:Ch):XI (Xt h c):=by
 by_cases ht:Up h c.under c.block
 ·rw[Xt,if_pos ht];exact ha
 ·rw[Xt,if_neg ht]
  have hb:∃ n,Y9 (Va h c.block c) n c.block:=by
   obtain ⟨n,hn⟩:=ha c.under
   exact ⟨n+1,c,Wv _ _ _,Ua n _ hn ht⟩
  intro u
  by_cases hu:Up h u c.block
  ·have key:∀ {u b:St},Up h u b→b=c.block→∃ n,Y9 (Va h c.block c) n u:=by
    intro u b hub
    induction hub with
    | refl u=>rintro rfl;exact hb
    | @step u b d hd _ ih =>
     intro e
     by_cases hub:u=c.block
     ·rw[hub];exact hb
     ·obtain ⟨n,hn⟩:=ih e
      exact ⟨n+1,d,by rw[Xd _ _ hub];exact hd,hn⟩
   exact key hu rfl
  ·obtain ⟨n,hn⟩:=ha u
   exact ⟨n,Ua n u hn hu⟩
theorem Z1e (cs:List Ch):XI (UL cs):=by
 have:∀ (cs:List Ch) (h:Zk),XI h→XI (cs.foldl Xt h):=fun cs=>by
  induction cs with
  | nil=>intro h ha;exact ha
  | cons c cs ih=>intro h ha;exact ih _ (Z1x ha c)
 exact this cs _ Z2Q
theorem Z1P:Tryz.prog.underlying 23=some (.struct (Tryz.prog.fieldsOf 23)):=by kernel_rfl
theorem Z30 (a b:St) (w:World):(Op.equal 23 a.val b.val).run Tryz.prog w=.ok (decide (a=b)) w:=by
 obtain ⟨a1,a2⟩:=a
 obtain ⟨b1,b2⟩:=b
 unfold Op.equal Op.maxDepth St.val
 go_simp
 by_cases h1:a1=b1 <;> by_cases h2:a2=b2 <;> simp[h1,h2]
theorem Qi (em:Bool) (a:St) (w:World):(Instr.checkKey em 10000 23 a.val).run Tryz.prog w=.ok () w:=by
 obtain ⟨a1,a2⟩:=a
 kernel_rfl
theorem ZN {V:Type}:WF (V:=V) Tryz.prog 23 St.val :=
 WF.of_equal Z1P (fun a=>⟨_,rfl⟩) Qi Z30 (fun a=>by simp[St.val,Instr.sameBits])
theorem ZO (a b:ByteArray):a.toList=b.toList↔a=b:=by
 rw[ByteArray.toList_eq,ByteArray.toList_eq]
 constructor
 ·intro h
  obtain ⟨x⟩:=a
  obtain ⟨y⟩:=b
  exact congrArg ByteArray.mk (Array.toList_inj.1 h)
 ·intro h;rw[h]
attribute [local go_sem] Z6.alloc Z6.drew Z6.setCell
attribute [local go_sem] Oper.semAt_some
attribute [local go_sem] Z6.alloc Z6.drew Z6.setCell
end Go.Proofs.YtlgipkemoldckaaGreatDoor
namespace Go.Proofs.YtlgipkemoldckaaGreatDoor
open Go
section
variable {P:Program} {ops:Array Oper} {Q:Exit→Act→World→Prop} {md:Region.Mode} {S:World→Prop} {z:Nat}
def Z3V (listed:Array Bool) (js:List Nat):Array Bool:=js.foldl (fun l j=>l.setIfInBounds j true) listed
end
end Go.Proofs.YtlgipkemoldckaaGreatDoor
namespace Go.Proofs.YtlgipkemoldckaaGreatDoor
open Go.RowKit
attribute [local go_sem] Z6.alloc Z6.drew Z6.setCell
def Wb (a b u:St):Bool:=Z7 a && Z7 b && (decide (u=⟨0,0⟩) || Z7 u)
attribute [local go_sem] Z6.alloc Z6.drew Z6.setCell
open Classical in
noncomputable def Vu:List (St × Ch)→St × Ch→List (St × Ch)
 | [],x=>[x]
 | y :: ys,x=>if ZK y.1 x.1 then y :: Vu ys x else x :: y :: ys
noncomputable def Y1 (c:List (St × Ch)):Zk:=UL (c.map (·.2))
section
variable {base:Nat} {w w':World} {t mh:Nat} {c:List (St × Ch)}
open Classical in
noncomputable def Yu (c:List (St × Ch)) (a b u:St):Int:=if Wb a b u=true then (if ∃ x∈c,x.1=a then 141 else 0) else 1
open Classical in
noncomputable def WR (c:List (St × Ch)) (a:St) (x:Ch):List (St × Ch):=if Yu c a x.block x.under=0 then Vu c (a,x) else c
end
end Go.Proofs.YtlgipkemoldckaaGreatDoor
namespace Go.Proofs.YtlgipkemoldckaaGreatDoor
open Go.ChangeShapes Go.WideShapes Go.RowKit Go.Deep
structure RMv where
 at_:St
 block:St
 under:St
 key:ByteArray
 deriving DecidableEq
def RMv.cells (x:RMv):List Value:=[.int .i64 x.at_.n,.int .i64 x.at_.r,.int .i64 x.block.n,.int .i64 x.block.r,.int .i64 x.under.n,.int .i64 x.under.r,.string x.key]
def RMv.ch (x:RMv):Ch:=⟨x.block,x.under,x.key⟩
theorem RMv.len (x:RMv):x.cells.length=7:=rfl
section
variable {H:Type} {enc:TypeId × Value→H} {w:World} {base:Nat} {spare:Nat→Bool} {held:Bool}
theorem QZ {fuel:Nat} {cs:List Value} {x:DataW H × List MemPlace} (h:DataW.trod enc Tryz.prog w base spare held fuel 88 cs=some x):∃ y:RMv,cs=y.cells:=by
 obtain ⟨xs,n,_,_,hlen,hxl,hf⟩:=DataW.trod_struct Tryz.underlying88 h
 have hc:Tryz.prog.cellsOf 88=7:=by kernel_rfl
 have hc1:Tryz.prog.cellsOf 23=2:=by kernel_rfl
 have hc2:Tryz.prog.cellsOf 9=1:=by kernel_rfl
 rw[hc] at hlen
 match cs,hlen with
 | [a,b,c,d,e,f,g],_ =>
  have f0:DataW.trod enc Tryz.prog w base spare held n 23 [a,b]=xs[0]?:=by simpa [hc1] using hf 0 _ rfl
  have f1:DataW.trod enc Tryz.prog w base spare held n 23 [c,d]=xs[1]?:=by simpa [hc1] using hf 1 _ rfl
  have f2:DataW.trod enc Tryz.prog w base spare held n 23 [e,f]=xs[2]?:=by simpa [hc1] using hf 2 _ rfl
  have f3:DataW.trod enc Tryz.prog w base spare held n 9 [g]=xs[3]?:=by simpa [hc2] using hf 3 _ rfl
  simp at hxl
  obtain ⟨s,hs⟩:=YK (f0.trans (List.getElem?_eq_getElem (by omega)))
  obtain ⟨u,hu⟩:=YK (f1.trans (List.getElem?_eq_getElem (by omega)))
  obtain ⟨p,hp⟩:=YK (f2.trans (List.getElem?_eq_getElem (by omega)))
  obtain ⟨q,hq,_⟩:=DataW.trod_string Tryz.underlying9 (f3.trans (List.getElem?_eq_getElem (by omega)))
  simp at hs hu hp hq
  exact ⟨⟨s,u,p,q⟩,by simp[RMv.cells,hs,hu,hp,hq]⟩
end
def Z3O (w:World) (b o:Nat) (x:RMv):Prop:=w.cell? ⟨b,o,none⟩=some (.int .i64 x.at_.n)∧w.cell? ⟨b,o+1,none⟩=some (.int .i64 x.at_.r)∧w.cell? ⟨b,o+2,none⟩=some (.int .i64 x.block.n)∧w.cell? ⟨b,o+3,none⟩=some (.int .i64 x.block.r) ∧
 w.cell? ⟨b,o+4,none⟩=some (.int .i64 x.under.n)∧w.cell? ⟨b,o+5,none⟩=some (.int .i64 x.under.r)∧w.cell? ⟨b,o+6,none⟩=some (.string x.key)
theorem Z5.rcells {w:World} {v:Value} {l:List RMv} (h:Z5 RMv.cells 7 w v l) (hne:l≠[]):∃ b o cap,v=.slice (some ⟨b,o,none⟩) l.length cap∧∀ i x,l[i]?=some x→Z3O w b (o+i*7) x:=by
 obtain ⟨a,cap,rfl,_,_,h4⟩:=h
 obtain ⟨b,o,rfl,h6⟩:=h4 hne
 refine ⟨b,o,cap,rfl,fun i x hi=>⟨h6 i x hi 0 _ rfl,h6 i x hi 1 _ rfl,h6 i x hi 2 _ rfl,h6 i x hi 3 _ rfl,h6 i x hi 4 _ rfl,h6 i x hi 5 _ rfl,h6 i x hi 6 _ rfl⟩⟩
def Yo (w:World) (Z:Nat) (u:St):Prop:=w.heap[Z]?=some (.cells #[.int .i64 u.n,.int .i64 u.r] 23 (0,0))
section
variable {w w':World} {Z:Nat} {u:St}
theorem Yo.new (w:World) (u:St):Yo (w.alloc (.cells #[.int .i64 u.n,.int .i64 u.r] 23)) w.heap.size u:=World.alloc_heap_new w _
theorem Yo.c0 (h:Yo w Z u):w.cell? ⟨Z,0,none⟩=some (.int .i64 u.n):=by have h:=show w.heap[Z]?=_ from h;simp[World.cell?,h]
theorem Yo.c1 (h:Yo w Z u):w.cell? ⟨Z,1,none⟩=some (.int .i64 u.r):=by have h:=show w.heap[Z]?=_ from h;simp[World.cell?,h]
theorem Yo.f0 (h:Yo w Z u):w.frozen? ⟨Z,0,none⟩=false:=by have h:=show w.heap[Z]?=_ from h;simp[World.frozen?,h]
theorem Yo.f1 (h:Yo w Z u):w.frozen? ⟨Z,1,none⟩=false:=by have h:=show w.heap[Z]?=_ from h;simp[World.frozen?,h]
theorem Yo.lt (h:Yo w Z u):Z<w.heap.size:=(Array.getElem?_eq_some_iff.1 h).1
theorem Yo.ext {S:Nat→Prop} (h:Yo w Z u) (hx:Ext S w w') (hn:¬ S Z):Yo w' Z u:=(hx.block Z h.lt hn).trans h
theorem Yo.below (h:Yo w Z u) (hb:Below w.heap.size w w'):Yo w' Z u:=(hb.block Z h.lt).trans h
theorem Yo.alloc (h:Yo w Z u) (o:Obj):Yo (w.alloc o) Z u:=(Below.heap_alloc _ _ _ h.lt).trans h
theorem Yo.set (h:Yo w Z u) (a b:Int):Yo ((w.setCell ⟨Z,0,none⟩ (.int .i64 a)).setCell ⟨Z,1,none⟩ (.int .i64 b)) Z ⟨a,b⟩:=by
 have h:=show w.heap[Z]?=_ from h
 show (World.heap _)[Z]?=_
 simp only[World.setCell,Array.getElem?_modify,if_true,h]
 rfl
end
end Go.Proofs.YtlgipkemoldckaaGreatDoor
namespace Go.Proofs.YtlgipkemoldckaaGreatDoor
open Go.RowKit
theorem Z2m:Y1 []=fun _=>none:=rfl
theorem Qs {c:List (St × Ch)} {a b u:St} (hg:Wb a b u=true) (hn:∀ x∈c,x.1≠a):Yu c a b u=0:=by
 unfold Yu
 rw[if_pos hg,if_neg (fun ⟨x,h1,h2⟩=>hn x h1 h2)]
section
variable (ka kb:ByteArray)
end
theorem Z0w:(Tryz.prog.info? 88).map (fun i=>(i.zero,i.size,i.bytes))=some (some (.agg #[.int .i64 0,.int .i64 0,.int .i64 0,.int .i64 0,.int .i64 0,.int .i64 0,.string ⟨#[]⟩]),7,64):=by kernel_rfl
theorem RMv.one (x:RMv):∀ u∈x.cells,u.oneCell'=true:=by
 intro u hu
 simp only[RMv.cells,List.mem_cons,List.not_mem_nil,or_false] at hu
 rcases hu with rfl|rfl|rfl|rfl|rfl|rfl|rfl <;> rfl
end Go.Proofs.YtlgipkemoldckaaGreatDoor
namespace Go.Proofs.YtlgipkemoldckaaGreatDoor
def Sd (c:List (St × Ch)):Prop:=c.Pairwise (fun a b=>ZK a.1 b.1)
theorem Tt {c:List (St × Ch)} {x z:St × Ch}:z∈Vu c x↔z=x∨z∈c:=by
 induction c with
 | nil=>simp[Vu]
 | cons y c ih =>
  unfold Vu
  split
  ·rw[List.mem_cons,ih,List.mem_cons]
   constructor
   ·rintro (h|h|h)
    ·exact .inr (.inl h)
    ·exact .inl h
    ·exact .inr (.inr h)
   ·rintro (h|h|h)
    ·exact .inr (.inl h)
    ·exact .inl h
    ·exact .inr (.inr h)
  ·rw[List.mem_cons]
theorem Z2D {c:List (St × Ch)} {x:St × Ch} (hr:Sd c) (hn:∀ y∈c,y.1≠x.1):Sd (Vu c x):=by
 induction c with
 | nil=>simp[Vu,Sd]
 | cons y c ih =>
  have h:=List.pairwise_cons.1 hr
  unfold Vu
  split
  ·rename_i hlt
   refine List.pairwise_cons.2 ⟨fun z hz=>?_,ih h.2 (fun z hz=>hn z (by simp[hz]))⟩
   rcases Tt.1 hz with rfl|hz
   ·exact hlt
   ·exact h.1 z hz
  ·rename_i hlt
   have hxy:ZK x.1 y.1:=by
    rcases Y8 x.1 y.1 with t|t|t
    ·exact t
    ·exact absurd t.symm (hn y (by simp))
    ·exact absurd t hlt
   refine List.pairwise_cons.2 ⟨fun z hz=>?_,hr⟩
   rcases List.mem_cons.1 hz with rfl|hz
   ·exact hxy
   ·exact ZC hxy (h.1 z hz)
end Go.Proofs.YtlgipkemoldckaaGreatDoor
