/- OplogReads, part 1 of what the proof leans on (made short by a program). -/
import Derived.Test.YtgmdimbiipemhaaGreatDoorRows
import Derived.WalkSpells
import Derived.WalkLawsBesides
import Derived.Lib.Hide
import Derived.ProofKit
import Derived.Deep.Slices
import Derived.OrdersHeld
import Derived.Shelf.Bits.Mul64
import Derived.Shelf.Slices.Turned
import Derived.Shelf.Slices.Clone
import Derived.Shelf.Strings.Prefix
import Derived.Shelf.Strings.SlTrimAscii
import Derived.Deep.CutBlock
import Derived.Deep.DeepCutAuto
import Derived.Lib.SlBytesConst
import Derived.Lib.ConvBytes
import Derived.Lib.AppendZeros
import Derived.Laws.CopyOwn
set_option linter.unusedSimpArgs false
set_option linter.unusedVariables false
set_option linter.unusedSectionVars false
set_option maxRecDepth 20000
set_option maxHeartbeats 30000000
namespace Go.Proofs.YtgmdimbiipemhaaGreatDoor
open Go.RowKit
structure St where
 n:Int
 r:Int
 deriving DecidableEq
def ZS (s:St):Bool:=decide (1≤s.n∧s.n≤1048576∧0≤s.r∧s.r<8)
theorem Z15 (a b:Int) (w:World) :
  Calls Tryz.prog 138 #[.agg #[.int .i64 a,.int .i64 b]] w
   fun e w'=>e=.returned (.bool (ZS ⟨a,b⟩))∧Below w.heap.size w w':=by
 by_cases h1:1≤a
 ·by_cases h2:a≤1048576
  ·by_cases h3:0≤b
   ·by_cases h4:b<8
    ·have hr:ZS ⟨a,b⟩=true:=by simp only[ZS,decide_eq_true_eq];exact ⟨h1,h2,h3,h4⟩
     rw[hr];clear hr
     go_enter Tryz.func138,Tryz.ntmps138
     go_wp2
     go_ret
     exact ⟨rfl,(Below.refl _ _).alloc (Nat.le_refl _) _⟩
    ·have hr:ZS ⟨a,b⟩=false:=by simp only[ZS,decide_eq_false_iff_not];omega
     rw[hr];clear hr
     go_enter Tryz.func138,Tryz.ntmps138
     go_wp2
     go_ret
     exact ⟨rfl,(Below.refl _ _).alloc (Nat.le_refl _) _⟩
   ·have hr:ZS ⟨a,b⟩=false:=by simp only[ZS,decide_eq_false_iff_not];omega
    rw[hr];clear hr
    go_enter Tryz.func138,Tryz.ntmps138
    go_wp2
    go_ret
    exact ⟨rfl,(Below.refl _ _).alloc (Nat.le_refl _) _⟩
  ·have hr:ZS ⟨a,b⟩=false:=by simp only[ZS,decide_eq_false_iff_not];omega
   rw[hr];clear hr
   go_enter Tryz.func138,Tryz.ntmps138
   go_wp2
   go_ret
   exact ⟨rfl,(Below.refl _ _).alloc (Nat.le_refl _) _⟩
 ·have hr:ZS ⟨a,b⟩=false:=by simp only[ZS,decide_eq_false_iff_not];omega
  rw[hr];clear hr
  go_enter Tryz.func138,Tryz.ntmps138
  go_wp2
  go_ret
  exact ⟨rfl,(Below.refl _ _).alloc (Nat.le_refl _) _⟩
theorem Jh {p:Prop} (h:p):Hid p:=Lib.hid h
theorem Je {α:Sort _} (a:α):∃ x,a=x:=⟨_,rfl⟩
structure Ext (S:Nat→Prop) (w w':World):Prop where
 os:w'.os=w.os
 tape:w'.tape=w.tape
 output:w'.output=w.output
 size:w.heap.size≤w'.heap.size
 block:∀ k,k<w.heap.size→¬ S k→w'.heap[k]?=w.heap[k]?
theorem Ext.refl (S:Nat→Prop) (w:World):Ext S w w:=⟨rfl,rfl,rfl,Nat.le_refl _,fun _ _ _=>rfl⟩
theorem Ext.trans {S:Nat→Prop} {a b c:World} (h:Ext S a b) (k:Ext S b c):Ext S a c :=
 ⟨k.os.trans h.os,k.tape.trans h.tape,k.output.trans h.output,Nat.le_trans h.size k.size,fun i hi hn=>(k.block i (Nat.lt_of_lt_of_le hi h.size) hn).trans (h.block i hi hn)⟩
theorem Ext.mono {S T:Nat→Prop} {w w':World} (h:Ext S w w') (hs:∀ k,k<w.heap.size→S k→T k):Ext T w w' :=
 ⟨h.os,h.tape,h.output,h.size,fun k hk hn=>h.block k hk (fun s=>hn (hs k hk s))⟩
theorem Ext.andThen {S T:Nat→Prop} {a b c:World} (h:Ext S a b) (k:Ext T b c) (hs:∀ i,i<a.heap.size→T i→S i):Ext S a c :=
 ⟨k.os.trans h.os,k.tape.trans h.tape,k.output.trans h.output,Nat.le_trans h.size k.size,fun i hi hn=>(k.block i (Nat.lt_of_lt_of_le hi h.size) (fun t=>hn (hs i hi t))).trans (h.block i hi hn)⟩
theorem Ext.drew {S:Nat→Prop} {a w:World} (h:Ext S a w):Ext S a w.drew:=⟨h.os,h.tape,h.output,h.size,h.block⟩
theorem Ext.alloc {S:Nat→Prop} {a w:World} (h:Ext S a w) (o:Obj):Ext S a (w.alloc o) :=
 h.trans ⟨rfl,rfl,rfl,by simp,fun k hk _=>Below.heap_alloc _ _ _ hk⟩
theorem Ext.setCell {S:Nat→Prop} {a w:World} (h:Ext S a w) {p:Addr} (hp:a.heap.size≤p.block∨S p.block) (u:Value):Ext S a (w.setCell p u) :=
 ⟨h.os,h.tape,h.output,by simpa [World.setCell] using h.size,fun k hk hn=>by
  rw[Below.heap_setCell _ _ _ _ (by intro e;subst e;rcases hp with hp|hp;omega;exact hn hp)];exact h.block k hk hn⟩
theorem Ext.below {w w':World} (h:Ext (fun _=>False) w w'):Below w.heap.size w w':=⟨h.os,h.tape,h.output,h.size,fun k hk=>h.block k hk id⟩
theorem Ext.of_below {S:Nat→Prop} {w w':World} (h:Below w.heap.size w w'):Ext S w w':=⟨h.os,h.tape,h.output,h.size,fun k hk _=>h.block k hk⟩
theorem Ext.cell {S:Nat→Prop} {w w':World} (h:Ext S w w') {p:Addr} (hp:p.block<w.heap.size) (hn:¬ S p.block):w'.cell? p=w.cell? p:=World.cell?_of_block (w:=w) (h.block p.block hp hn)
theorem Ext.frozen {S:Nat→Prop} {w w':World} (h:Ext S w w') {p:Addr} (hp:p.block<w.heap.size) (hn:¬ S p.block):w'.frozen? p=w.frozen? p:=World.frozen?_of_block (w:=w) (h.block p.block hp hn)
theorem Z4U {B:Nat} {w w':World}:Below B w.drew w'↔Below B w w':=⟨fun h=>⟨h.os,h.tape,h.output,h.size,h.block⟩,fun h=>⟨h.os,h.tape,h.output,h.size,h.block⟩⟩
theorem Z57 (w:World):w.drew.heap=w.heap:=rfl
theorem Z6Q {S:Nat→Prop} {w w':World}:Ext S w.drew w'↔Ext S w w':=⟨fun h=>⟨h.os,h.tape,h.output,h.size,h.block⟩,fun h=>⟨h.os,h.tape,h.output,h.size,h.block⟩⟩
theorem Ext.new {S:Nat→Prop} {B:Nat} {w a b:World} (h:Below B w a) (k:Ext S a b) (hs:∀ i,i<B→i<a.heap.size→¬ S i) (hB:B≤a.heap.size):Below B w b :=
 ⟨k.os.trans h.os,k.tape.trans h.tape,k.output.trans h.output,Nat.le_trans h.size k.size,fun i hi=>(k.block i (by omega) (hs i hi (by omega))).trans (h.block i hi)⟩
theorem Zu {w:World} {b o:Nat} {v:Value} (h:w.cell? ⟨b,o,none⟩=some v):b<w.heap.size:=by
 simp only[World.cell?] at h
 exact Classical.byContradiction fun hn=>by rw[Array.getElem?_eq_none (by omega)] at h;cases h
theorem Zy {w:World} {b o:Nat} {v:Value} (h:w.cell? ⟨b,o,none⟩=some v) (x:Obj):(w.alloc x).cell? ⟨b,o,none⟩=some v :=
 (World.cell?_alloc_past x b o (Zu h)).trans h
theorem ZH {W w1:World} (hb:Below W.heap.size W w1) {b o:Nat} {v:Value} (h:W.cell? ⟨b,o,none⟩=some v):w1.cell? ⟨b,o,none⟩=some v :=
 (hb.cell (p:=⟨b,o,none⟩) (Zu h)).trans h
theorem Ext.keep {S:Nat→Prop} {W w1:World} (hb:Ext S W w1) {b o:Nat} {v:Value} (h:W.cell? ⟨b,o,none⟩=some v) (hn:¬ S b):w1.cell? ⟨b,o,none⟩=some v :=
 (hb.cell (p:=⟨b,o,none⟩) (Zu h) hn).trans h
section maps
variable {K V:Type} [DecidableEq K]
def Z8:List (K × V)→K→Option V
 | [],_=>none
 | (k',v) :: r,k=>if k'=k then some v else Z8 r k
def Xd:List (K × V)→K→V→List (K × V)
 | [],k,v=>[(k,v)]
 | (k',v') :: r,k,v=>if k'=k then (k',v) :: r else (k',v') :: Xd r k v
def Xs:List (K × V)→K→List (K × V)
 | [],_=>[]
 | (k',v') :: r,k=>if k'=k then r else (k',v') :: Xs r k
def Yb:List (K × V)→K→Option Nat
 | [],_=>none
 | (k',_) :: r,k=>if k'=k then some 0 else (Yb r k).map (·+1)
theorem Z52 {l:List (K × V)} {k:K} (h:Yb l k=none):Z8 l k=none:=by
 induction l with
 | nil=>rfl
 | cons p r ih =>
  obtain ⟨k',v⟩:=p
  simp only[Yb] at h
  split at h
  ·cases h
  ·rename_i hne
   simp only[Z8,hne,if_false]
   exact ih (by simpa using h)
theorem Ui {l:List (K × V)} {k:K} {i:Nat} (h:Yb l k=some i):∃ v,l[i]?=some (k,v)∧Z8 l k=some v:=by
 induction l generalizing i with
 | nil=>cases h
 | cons p r ih =>
  obtain ⟨k',v⟩:=p
  simp only[Yb] at h
  split at h
  ·rename_i he
   cases h
   exact ⟨v,by simp[he],by simp[Z8,he]⟩
  ·rename_i hne
   cases hi:Yb r k with
   | none=>rw[hi] at h;cases h
   | some j =>
    rw[hi] at h
    cases h
    obtain ⟨u,h1,h2⟩:=ih hi
    exact ⟨u,by simpa using h1,by simpa [Z8,hne] using h2⟩
theorem Uo {l:List (K × V)} {k:K} {v:V} (h:Yb l k=none):Xd l k v=l++[(k,v)]:=by
 induction l with
 | nil=>rfl
 | cons p r ih =>
  obtain ⟨k',v'⟩:=p
  simp only[Yb] at h
  split at h
  ·cases h
  ·rename_i hne
   simp only[Xd,hne,if_false,List.cons_append]
   rw[ih (by simpa using h)]
theorem Tt {l:List (K × V)} {k:K} {v:V} {i:Nat} (h:Yb l k=some i):Xd l k v=l.set i (k,v):=by
 induction l generalizing i with
 | nil=>cases h
 | cons p r ih =>
  obtain ⟨k',v'⟩:=p
  simp only[Yb] at h
  split at h
  ·rename_i he
   cases h
   simp[Xd,he]
  ·rename_i hne
   cases hi:Yb r k with
   | none=>rw[hi] at h;cases h
   | some j =>
    rw[hi] at h
    cases h
    simp[Xd,hne,ih hi]
theorem Z1s {l:List (K × V)} {k:K} (h:Yb l k=none):Xs l k=l:=by
 induction l with
 | nil=>rfl
 | cons p r ih =>
  obtain ⟨k',v'⟩:=p
  simp only[Yb] at h
  split at h
  ·cases h
  ·rename_i hne
   simp only[Xs,hne,if_false]
   rw[ih (by simpa using h)]
theorem Z17 {l:List (K × V)} {k:K} {i:Nat} (h:Yb l k=some i):Xs l k=l.eraseIdx i:=by
 induction l generalizing i with
 | nil=>cases h
 | cons p r ih =>
  obtain ⟨k',v'⟩:=p
  simp only[Yb] at h
  split at h
  ·rename_i he
   cases h
   simp[Xs,he]
  ·rename_i hne
   cases hi:Yb r k with
   | none=>rw[hi] at h;cases h
   | some j =>
    rw[hi] at h
    cases h
    simp[Xs,hne,ih hi]
theorem U9 (l:List (K × V)) (k:K) (v:V):Z8 (Xd l k v) k=some v:=by
 induction l with
 | nil=>simp[Xd,Z8]
 | cons p r ih =>
  obtain ⟨k',v'⟩:=p
  by_cases h:k'=k <;> simp[Xd,Z8,h,ih]
theorem Ty (l:List (K × V)) {k j:K} (v:V) (h:k≠j):Z8 (Xd l k v) j=Z8 l j:=by
 induction l with
 | nil=>simp[Xd,Z8,h]
 | cons p r ih =>
  obtain ⟨k',v'⟩:=p
  by_cases h1:k'=k
  ·subst h1;simp[Xd,Z8,h]
  ·simp only[Xd,if_neg h1,Z8,ih]
theorem Z5E (l:List (K × V)) (k:K) (v:V):∀ x,x∈(Xd l k v).map (·.1)↔x=k∨x∈l.map (·.1):=by
 intro x
 induction l with
 | nil=>simp[Xd]
 | cons p r ih =>
  obtain ⟨k',v'⟩:=p
  by_cases h1:k'=k
  ·subst h1;simp[Xd]
  ·simp only[Xd,h1,if_false,List.map_cons,List.mem_cons,ih]
   constructor
   ·rintro (h|h|h)
    ·exact .inr (.inl h)
    ·exact .inl h
    ·exact .inr (.inr h)
   ·rintro (h|h|h)
    ·exact .inr (.inl h)
    ·exact .inl h
    ·exact .inr (.inr h)
theorem Z0i (l:List (K × V)) (k:K) (v:V) (h:(l.map (·.1)).Nodup):((Xd l k v).map (·.1)).Nodup:=by
 induction l with
 | nil=>simp[Xd]
 | cons p r ih =>
  obtain ⟨k',v'⟩:=p
  by_cases h1:k'=k
  ·subst h1;simpa [Xd] using h
  ·simp only[Xd,if_neg h1,List.map_cons,List.nodup_cons] at h ⊢
   refine ⟨fun hm=>?_,ih h.2⟩
   rcases (Z5E r k v k').1 hm with e|e
   ·exact absurd e h1
   ·exact h.1 e
theorem Ss (l:List (K × V)) (k:K):(Xs l k).Sublist l:=by
 induction l with
 | nil=>exact List.Sublist.refl _
 | cons p r ih =>
  obtain ⟨k',v'⟩:=p
  by_cases h1:k'=k
  ·simp[Xs,h1]
  ·simp only[Xs,h1,if_false];exact ih.cons_cons _
theorem Sx (l:List (K × V)) (k:K) (h:(l.map (·.1)).Nodup):((Xs l k).map (·.1)).Nodup:=List.Sublist.nodup ((Ss l k).map _) h
theorem WH (l:List (K × V)) (k:K):Z8 l k=none↔k∉l.map (·.1):=by
 induction l with
 | nil=>simp[Z8]
 | cons p r ih =>
  obtain ⟨k',v'⟩:=p
  by_cases h1:k'=k
  ·simp[Z8,h1]
  ·simp only[Z8,h1,if_false,List.map_cons,List.mem_cons,not_or,ih]
   exact ⟨fun h=>⟨fun e=>h1 e.symm,h⟩,fun h=>h.2⟩
theorem Wy {l:List (K × V)} {k:K} {v:V} (h:Z8 l k=some v):(k,v)∈l:=by
 induction l with
 | nil=>cases h
 | cons p r ih =>
  obtain ⟨k',v'⟩:=p
  by_cases h1:k'=k
  ·simp only[Z8,h1,if_true] at h;cases h;simp[h1]
  ·simp only[Z8,h1,if_false] at h;exact List.mem_cons_of_mem _ (ih h)
theorem Sa (l:List (K × V)) (k:K) (hn:(l.map (·.1)).Nodup):Z8 (Xs l k) k=none:=by
 induction l with
 | nil=>rfl
 | cons p r ih =>
  obtain ⟨k',v'⟩:=p
  simp only[List.map_cons,List.nodup_cons] at hn
  by_cases h1:k'=k
  ·subst h1;simp only[Xs,if_true];exact (WH _ _).2 hn.1
  ·simp only[Xs,Z8,h1,if_false];exact ih hn.2
theorem QL (l:List (K × V)) {k j:K} (h:k≠j):Z8 (Xs l k) j=Z8 l j:=by
 induction l with
 | nil=>rfl
 | cons p r ih =>
  obtain ⟨k',v'⟩:=p
  by_cases h1:k'=k
  ·subst h1;simp[Xs,Z8,h]
  ·simp only[Xs,if_neg h1,Z8,ih]
theorem Z0H (l:List (K × V)) (k:K) (v:V):(Xd l k v).length≤l.length+1:=by
 induction l with
 | nil=>simp[Xd]
 | cons p r ih =>
  obtain ⟨k',v'⟩:=p
  by_cases h1:k'=k
  ·simp[Xd,h1]
  ·simp[Xd,h1];omega
structure Z27 (P:Program) (kt:TypeId) (ek:K→Value):Prop where
 check:∀ (em:Bool) (k:K) (w:World),(Instr.checkKey em 10000 kt (ek k)).run P w=.ok () w
 find:∀ (k:K) (es:List MapEntry) (l:List (K × V)) (w:World),es.map (·.key)=l.map (fun p=>ek p.1) →
  (Instr.findKey kt (ek k) es).run P w=.ok ((Yb l k).map fun i=>(i,((es[i]?).map (·.val)).getD undef)) w
 stays:∀ (k:K) (w:World),(Instr.keyThatStays (ek k) (ek k)).run P w=.ok (ek k) w
def Zq (ek:K→Value) (ev:V→Value) (w:World) (b:Nat) (l:List (K × V)):Prop :=
 (l.map (·.1)).Nodup∧∃ es clock,w.heap[b]?=some (.map es clock)∧es.toList.map (·.key)=l.map (fun p=>ek p.1)∧es.toList.map (·.val)=l.map (fun p=>ev p.2) ∧
  es.toList.Pairwise (fun x y=>x.born<y.born)∧∀ e∈es.toList,e.born<clock
variable {ek:K→Value} {ev:V→Value} {w:World} {b:Nat} {l:List (K × V)}
theorem Zq.of_block {w':World} (h:Zq ek ev w b l) (hb:w'.heap[b]?=w.heap[b]?):Zq ek ev w' b l:=by
 obtain ⟨hn,es,clock,h1,h2⟩:=h
 exact ⟨hn,es,clock,hb.trans h1,h2⟩
theorem Zq.lt (h:Zq ek ev w b l):b<w.heap.size:=by
 obtain ⟨hn,es,clock,h1,h2⟩:=h
 exact (Array.getElem?_eq_some_iff.1 h1).1
theorem Zq.nodup (h:Zq ek ev w b l):(l.map (·.1)).Nodup:=h.1
theorem Zq.drew (h:Zq ek ev w b l):Zq ek ev w.drew b l:=h
theorem Zq.alloc (h:Zq ek ev w b l) (o:Obj):Zq ek ev (w.alloc o) b l:=h.of_block (Below.heap_alloc _ _ _ h.lt)
theorem Zq.setCell (h:Zq ek ev w b l) (p:Addr) (v:Value):Zq ek ev (w.setCell p v) b l:=by
 obtain ⟨hn,es,clock,h1,h2⟩:=h
 refine ⟨hn,es,clock,?_,h2⟩
 simp only[World.setCell,Array.getElem?_modify]
 split
 ·rename_i e
  subst e
  rw[h1]
  rfl
 ·exact h1
theorem Zq.ext {S:Nat→Prop} {w':World} (h:Zq ek ev w b l) (hx:Ext S w w') (hn:¬ S b):Zq ek ev w' b l:=h.of_block (hx.block b h.lt hn)
theorem Zq.below {w':World} (h:Zq ek ev w b l) (hx:Below w.heap.size w w'):Zq ek ev w' b l:=h.of_block (hx.block b h.lt)
theorem Zq.made (w:World):Zq ek ev (w.alloc (.map #[] 0)) w.heap.size ([]:List (K × V)) :=
 ⟨List.nodup_nil,#[],0,by show (w.heap.push _)[w.heap.size]?=_;simp,rfl,rfl,List.Pairwise.nil,by simp⟩
theorem Ym {P:Program} {es:Array MapEntry} {clock:Nat} (h:w.heap[b]?=some (.map es clock)):(getObj b).run P w=.ok (.map es clock) w:=MapKept.run_getObj_map h
theorem Zq.lookup {P:Program} {mt kt et:TypeId} (h:Zq ek ev w b l) (hk:Z27 (V:=V) P kt ek) (hm:P.underlying mt=some (.map kt et)) {z:Value} (hz:∀ w,(zeroValue et).run P w=.ok z w) (k:K) :
  (Instr.lookup mt (.map (some b)) (ek k) false).run P w=.ok (((Z8 l k).map ev).getD z) w:=by
 obtain ⟨hn,es,clock,h1,h2,h3,h4⟩:=h
 have hf:=hk.find k es.toList l w h2
 cases hi:Yb l k with
 | none =>
  have h0:=Z52 hi
  rw[hi] at hf
  simp[Instr.lookup,run_underlying hm,Ym h1,hk.check,hf,hz,h0,Result.andThen]
 | some i =>
  obtain ⟨v,e1,e2⟩:=Ui hi
  have hv:es.toList[i]?.map (·.val)=some (ev v):=by
   have:=congrArg (fun l:List Value=>l[i]?) h3
   simpa [e1] using this
  rw[hi] at hf
  simp only[Array.getElem?_toList] at hf hv
  simp[Instr.lookup,run_underlying hm,Ym h1,hk.check,hf,e2,Result.andThen]
  rw[show es[i]?.map (·.val)=some (ev v) from hv]
  rfl
def YE (w:World) (b:Nat) (i:Option Nat) (k v:Value):World :=
 match w.heap[b]? with
 | some (.map es clock)=>match i with
  | some i=>{ w with heap:=w.heap.setIfInBounds b (.map (es.modify i fun e=>{ e with key:=k,val:=v }) clock) }
  | none=>{ w with heap:=w.heap.setIfInBounds b (.map (es.push { key:=k,val:=v,born:=clock }) (clock+1)) }
 | _=>w
def YP (w:World) (b:Nat) (i:Option Nat):World :=
 match w.heap[b]? with
 | some (.map es clock)=>match i with
  | some i=>{ w with heap:=w.heap.setIfInBounds b (.map (es.eraseIdxIfInBounds i) clock) }
  | none=>w
 | _=>w
theorem RI (w:World) (b:Nat) (i:Option Nat) (k v:Value):(YE w b i k v).heap.size=w.heap.size:=by
 unfold YE;split
 ·split <;> simp
 ·rfl
theorem UO (w:World) (b:Nat) (i:Option Nat) (k v:Value) (c:Nat) (h:c≠b):(YE w b i k v).heap[c]?=w.heap[c]?:=by
 unfold YE;split
 ·split <;> simp[Array.getElem?_setIfInBounds,h.symm]
 ·rfl
theorem Z3r (w:World) (b:Nat) (i:Option Nat) (k v:Value):YE w.drew b i k v=(YE w b i k v).drew:=by
 unfold YE
 show (match w.heap[b]? with|some (.map es clock)=>_|_=>_)=_
 split
 ·split <;> rfl
 ·rfl
theorem Z3E (w:World) (b:Nat) (i:Option Nat) (k v:Value) (a:Addr):(YE w b i k v).cell? a=w.cell? a:=by
 by_cases h:a.block=b
 ·subst h
  unfold YE
  split
  ·rename_i es clock hb
   split <;> (simp only[World.cell?,Array.getElem?_setIfInBounds,if_true,hb];split <;> simp_all)
  ·rfl
 ·exact World.cell?_of_block (w:=w) (UO w b i k v _ h)
theorem Z1Z (w:World) (b:Nat) (i:Option Nat) (k v:Value) (a:Addr):(YE w b i k v).frozen? a=w.frozen? a:=by
 by_cases h:a.block=b
 ·subst h
  unfold YE
  split
  ·rename_i es clock hb
   split <;> (simp only[World.frozen?,Array.getElem?_setIfInBounds,if_true,hb];split <;> simp_all)
  ·rfl
 ·exact World.frozen?_of_block (w:=w) (UO w b i k v _ h)
theorem RU (w:World) (b:Nat) (i:Option Nat):(YP w b i).heap.size=w.heap.size:=by
 unfold YP;split
 ·split <;> simp
 ·rfl
theorem Td (w:World) (b:Nat) (i:Option Nat) (c:Nat) (h:c≠b):(YP w b i).heap[c]?=w.heap[c]?:=by
 unfold YP;split
 ·split <;> simp[Array.getElem?_setIfInBounds,h.symm]
 ·rfl
theorem Z3Q (w:World) (b:Nat) (i:Option Nat) (a:Addr):(YP w b i).cell? a=w.cell? a:=by
 by_cases h:a.block=b
 ·subst h
  unfold YP
  split
  ·rename_i es clock hb
   split <;> (simp only[World.cell?,Array.getElem?_setIfInBounds,if_true,hb];try (split <;> simp_all))
  ·rfl
 ·exact World.cell?_of_block (w:=w) (Td w b i _ h)
theorem Z26 (w:World) (b:Nat) (i:Option Nat) (a:Addr):(YP w b i).frozen? a=w.frozen? a:=by
 by_cases h:a.block=b
 ·subst h
  unfold YP
  split
  ·rename_i es clock hb
   split <;> (simp only[World.frozen?,Array.getElem?_setIfInBounds,if_true,hb];try (split <;> simp_all))
  ·rfl
 ·exact World.frozen?_of_block (w:=w) (Td w b i _ h)
theorem Z3N (w:World) (b:Nat) (i:Option Nat):YP w.drew b i=(YP w b i).drew:=by
 unfold YP
 show (match w.heap[b]? with|some (.map es clock)=>_|_=>_)=_
 split
 ·split <;> rfl
 ·rfl
theorem VJ (w:World) (b:Nat) (i:Option Nat) (k v:Value):Ext (·=b) w (YE w b i k v):=by
 refine ⟨?_,?_,?_,Nat.le_of_eq (RI w b i k v).symm,fun c _ h=>UO w b i k v c h⟩ <;> (unfold YE;split <;> (try split) <;> rfl)
theorem Z4o (w:World) (b:Nat) (i:Option Nat):Ext (·=b) w (YP w b i):=by
 refine ⟨?_,?_,?_,Nat.le_of_eq (RU w b i).symm,fun c _ h=>Td w b i c h⟩ <;> (unfold YP;split <;> (try split) <;> rfl)
theorem Ext.mapPut {S:Nat→Prop} {a w:World} (h:Ext S a w) {b:Nat} (hb:S b∨a.heap.size≤b) (i:Option Nat) (k v:Value):Ext S a (YE w b i k v) :=
 h.andThen (VJ w b i k v) (fun j hj e=>by rcases hb with hb|hb;exact e ▸ hb;exact absurd hj (by omega))
theorem Ext.mapDel {S:Nat→Prop} {a w:World} (h:Ext S a w) {b:Nat} (hb:S b∨a.heap.size≤b) (i:Option Nat):Ext S a (YP w b i) :=
 h.andThen (Z4o w b i) (fun j hj e=>by rcases hb with hb|hb;exact e ▸ hb;exact absurd hj (by omega))
theorem Zq.update {P:Program} {mt kt et:TypeId} (h:Zq ek ev w b l) (hk:Z27 (V:=V) P kt ek) (hm:P.underlying mt=some (.map kt et)) (k:K) (v:Value) :
  (Instr.mapUpdate mt (.map (some b)) (ek k) v).run P w=.ok () (YE w b (Yb l k) (ek k) v):=by
 obtain ⟨hn,es,clock,h1,h2,h3,h4⟩:=h
 have hf:=hk.find k es.toList l w h2
 cases hi:Yb l k with
 | none =>
  rw[hi] at hf
  simp[Instr.mapUpdate,run_underlying hm,Ym h1,hk.check,hf,Result.andThen,MapKept.run_setObj_map _ h1,YE,h1]
 | some i =>
  obtain ⟨u,e1,e2⟩:=Ui hi
  have hv:es.toList[i]?.map (·.key)=some (ek k):=by
   have:=congrArg (fun l:List Value=>l[i]?) h2
   simpa [e1] using this
  rw[hi] at hf
  simp only[Array.getElem?_toList] at hf hv
  simp[Instr.mapUpdate,run_underlying hm,Ym h1,hk.check,hf,hv,hk.stays,Result.andThen,MapKept.run_setObj_map _ h1,YE,h1]
theorem Zq.put (h:Zq ek ev w b l) (k:K) (v:V):Zq ek ev (YE w b (Yb l k) (ek k) (ev v)) b (Xd l k v):=by
 refine ⟨Z0i l k v h.1,?_⟩
 have hlt:=h.lt
 obtain ⟨hn,es,clock,h1,h2,h3,h4,h5⟩:=h
 cases hi:Yb l k with
 | none =>
  refine ⟨es.push { key:=ek k,val:=ev v,born:=clock },clock+1,?_,?_,?_,?_,?_⟩
  ·simp only[YE,h1];rw[Array.getElem?_setIfInBounds_self_of_lt hlt]
  ·simp[Uo hi,h2]
  ·simp[Uo hi,h3]
  ·rw[Array.toList_push,List.pairwise_append]
   refine ⟨h4,List.pairwise_singleton _ _,fun x hx y hy=>?_⟩
   rw[List.mem_singleton.1 hy]
   exact h5 x hx
  ·intro e he
   rw[Array.toList_push,List.mem_append] at he
   rcases he with he|he
   ·exact Nat.lt_succ_of_lt (h5 e he)
   ·rw[List.mem_singleton.1 he];exact Nat.lt_succ_self _
 | some i =>
  obtain ⟨u,e1,e2⟩:=Ui hi
  have hset:∀ e,es.toList[i]?=some e→(es.modify i fun e=>{ e with key:=ek k,val:=ev v }).toList=es.toList.set i { e with key:=ek k,val:=ev v }:=fun e he=>by
   rw[Array.toList_modify,ChangeMaps.modify_eq_set _ _ _ _ he]
  obtain ⟨e0,he0⟩:∃ e,es.toList[i]?=some e:=by
   have:=congrArg (fun l:List Value=>l[i]?) h2
   simp only[List.getElem?_map,e1] at this
   cases hx:es.toList[i]? with
   | none=>rw[hx] at this;cases this
   | some e=>exact ⟨e,rfl⟩
  refine ⟨es.modify i fun e=>{ e with key:=ek k,val:=ev v },clock,?_,?_,?_,?_,?_⟩
  ·simp only[YE,h1];rw[Array.getElem?_setIfInBounds_self_of_lt hlt]
  ·rw[hset e0 he0,List.map_set,h2,Tt hi,List.map_set]
  ·rw[hset e0 he0,List.map_set,h3,Tt hi,List.map_set]
  ·rw[hset e0 he0]
   have:(es.toList.set i { e0 with key:=ek k,val:=ev v }).map (·.born)=es.toList.map (·.born):=by
    rw[List.map_set]
    refine List.ext_getElem? fun j=>?_
    rw[List.getElem?_set]
    split
    ·rename_i hij
     subst hij
     split
     ·simp[he0]
     ·rename_i hl
      simp only[List.length_map] at hl
      rw[List.getElem?_eq_none (by simpa using hl)]
    ·rfl
   have hp:((es.toList.set i { e0 with key:=ek k,val:=ev v }).map (·.born)).Pairwise (·<·):=by rw[this];exact List.pairwise_map.2 h4
   exact List.pairwise_map.1 hp
  ·intro e he
   rw[hset e0 he0] at he
   rcases List.mem_or_eq_of_mem_set he with he|he
   ·exact h5 e he
   ·rw[he];exact h5 e0 (List.mem_of_getElem? he0)
theorem Zq.delete {P:Program} {mt kt et ty:TypeId} (h:Zq ek ev w b l) (hk:Z27 (V:=V) P kt ek) (hm:P.underlying mt=some (.map kt et)) (k:K) :
  (Builtin.delete_ #[mt,kt] ty #[.map (some b),ek k]).run P w=.ok (.tuple #[]) (YP w b (Yb l k)):=by
 obtain ⟨hn,es,clock,h1,h2,h3,h4⟩:=h
 have hf:=hk.find k es.toList l w h2
 have hlt:=(Array.getElem?_eq_some_iff.1 h1)
 cases hi:Yb l k with
 | none =>
  rw[hi] at hf
  have:({ w with heap:=w.heap.setIfInBounds b (.map es clock) }:World)=w:=by
   have e:w.heap.setIfInBounds b (.map es clock)=w.heap:=by
    apply Array.ext_getElem?
    intro j
    rw[Array.getElem?_setIfInBounds]
    split
    ·rename_i e;subst e;rw[if_pos hlt.1,h1]
    ·rfl
   rw[e]
  simp[Builtin.delete_,run_underlying hm,Ym h1,hk.check,hf,Result.andThen,MapKept.run_setObj_map _ h1,YP,h1,this]
 | some i =>
  rw[hi] at hf
  simp[Builtin.delete_,run_underlying hm,Ym h1,hk.check,hf,Result.andThen,MapKept.run_setObj_map _ h1,YP,h1]
theorem Zq.del (h:Zq ek ev w b l) (k:K):Zq ek ev (YP w b (Yb l k)) b (Xs l k):=by
 refine ⟨Sx l k h.1,?_⟩
 have hlt:=h.lt
 obtain ⟨hn,es,clock,h1,h2,h3,h4,h5⟩:=h
 cases hi:Yb l k with
 | none=>exact ⟨es,clock,by simp[YP,h1],by rw[Z1s hi];exact h2,by rw[Z1s hi];exact h3,h4,h5⟩
 | some i =>
  have hl:i<es.size:=by
   obtain ⟨u,e1,_⟩:=Ui hi
   have:=congrArg List.length h2
   have h6:=(List.getElem?_eq_some_iff.1 e1).1
   simp at this
   omega
  have e3:(es.eraseIdxIfInBounds i).toList=es.toList.eraseIdx i:=by
   simp[Array.eraseIdxIfInBounds,hl]
  refine ⟨es.eraseIdxIfInBounds i,clock,by simp only[YP,h1];rw[Array.getElem?_setIfInBounds_self_of_lt hlt],?_,?_,?_,?_⟩
  ·rw[e3,Z17 hi,ChangeMaps.map_eraseIdx,h2,ChangeMaps.map_eraseIdx]
  ·rw[e3,Z17 hi,ChangeMaps.map_eraseIdx,h3,ChangeMaps.map_eraseIdx]
  ·rw[e3];exact List.Pairwise.sublist (List.eraseIdx_sublist _ _) h4
  ·intro e he;rw[e3] at he;exact h5 e (List.mem_of_mem_eraseIdx he)
end maps
end Go.Proofs.YtgmdimbiipemhaaGreatDoor
namespace Go.Proofs.YtgmdimbiipemhaaGreatDoor
open Go.ChangeShapes Go.WideShapes Go.RowKit Go.Deep
theorem Tryz.own:ownKnob Tryz.prog.godebug=none:=by kernel_rfl
theorem Tryz.laidOut:laidOutB Tryz.prog=true:=by kernel_rfl
theorem RZ {α:Type} {p:Nat→α→Prop}:∀ (n:Nat),(∀ i,i<n→∃ x,p i x)→∃ l:List α,l.length=n∧∀ i x,l[i]?=some x→p i x
 | 0,_=>⟨[],rfl,fun i x h=>by simp at h⟩
 | n+1,h=>by
  obtain ⟨l,hl,hp⟩:=RZ n (fun i hi=>h i (by omega))
  obtain ⟨x,hx⟩:=h n (by omega)
  refine ⟨l++[x],by simp[hl],fun i y hy=>?_⟩
  by_cases hi:i<n
  ·rw[List.getElem?_append_left (by omega)] at hy
   exact hp i y hy
  ·rw[List.getElem?_append_right (by omega)] at hy
   have:i - l.length=0:=by
    have:=(List.getElem?_eq_some_iff.1 hy).1
    simp at this;omega
   rw[this] at hy
   cases hy
   have:i=n:=by omega
   subst this
   exact hx
def Z0 {α:Type} (enc:α→List Value) (k:Nat) (w:World) (v:Value) (l:List α):Prop :=
 ∃ a cap,v=.slice a l.length cap∧l.length≤cap∧cap≤maxLen∧(l≠[]→∃ b off,a=some ⟨b,off,none⟩∧∀ i x,l[i]?=some x→∀ j u,(enc x)[j]?=some u→w.cell? ⟨b,off+i*k+j,none⟩=some u)
theorem Z0.of {α:Type} {enc:α→List Value} {k:Nat} {w w':World} {v:Value} {l:List α} (h:Z0 enc k w v l) (hb:∀ b o u,w.cell? ⟨b,o,none⟩=some u→w'.cell? ⟨b,o,none⟩=some u):Z0 enc k w' v l:=by
 obtain ⟨a,cap,h1,h2,h3,h4⟩:=h
 refine ⟨a,cap,h1,h2,h3,fun hl=>?_⟩
 obtain ⟨b,off,h5,h6⟩:=h4 hl
 exact ⟨b,off,h5,fun i x hi j u hj=>hb _ _ _ (h6 i x hi j u hj)⟩
theorem Z0.below {α:Type} {enc:α→List Value} {k:Nat} {w w':World} {v:Value} {l:List α} (h:Z0 enc k w v l) (hb:Below w.heap.size w w'):Z0 enc k w' v l:=h.of (fun _ _ _ hu=>ZH hb hu)
section
variable {H:Type} {enc:TypeId × Value→H} {P:Program} {w:World} {base:Nat} {spare:Nat→Bool} {held:Bool}
end
section
variable {H:Type} {enc:TypeId × Value→H} {w:World} {base:Nat} {spare:Nat→Bool} {held:Bool}
end
end Go.Proofs.YtgmdimbiipemhaaGreatDoor
namespace Go.Proofs.YtgmdimbiipemhaaGreatDoor
open Go.RowKit
def Own {α:Type} (ea:α→List Value) (k:Nat) (e:TypeId) (base:Nat) (w:World) (v:Value) (l:List α):Prop:=w.ownsRow base e k v l.length (l.flatMap ea)
section
variable {α:Type} {ea:α→List Value} {k:Nat} {e:TypeId} {base:Nat} {w:World} {v:Value} {l:List α}
theorem Zw (hk:∀ x,(ea x).length=k):∀ l:List α,(l.flatMap ea).length=l.length*k
 | []=>by simp
 | x :: l=>by rw[List.flatMap_cons,List.length_append,hk,Zw hk l,List.length_cons,Nat.add_mul,Nat.one_mul,Nat.add_comm]
theorem getElem?_flatMap_k (hk:∀ x,(ea x).length=k):∀ (l:List α) (i:Nat) (x:α),l[i]?=some x→∀ j u,(ea x)[j]?=some u→(l.flatMap ea)[i*k+j]?=some u
 | [],i,x,h,_,_,_=>by simp at h
 | y :: l,0,x,h,j,u,hj=>by
  simp at h
  subst h
  have:=(List.getElem?_eq_some_iff.1 hj).1
  rw[List.flatMap_cons,Nat.zero_mul,Nat.zero_add,List.getElem?_append_left this]
  exact hj
 | y :: l,i+1,x,h,j,u,hj=>by
  have ih:=getElem?_flatMap_k hk l i x (by simpa using h) j u hj
  rw[List.flatMap_cons,List.getElem?_append_right (by rw[hk,Nat.add_mul];omega),hk]
  have:(i+1)*k+j - k=i*k+j:=by rw[Nat.add_mul];omega
  rw[this]
  exact ih
theorem Own.nil:Own ea k e base w (.slice none 0 0) ([]:List α):=⟨by simp,.inl ⟨rfl,rfl⟩⟩
theorem Own.alloc (h:Own ea k e base w v l) (o:Obj):Own ea k e base (w.alloc o) v l:=World.ownsRow.alloc h o
theorem Own.drew (h:Own ea k e base w v l):Own ea k e base w.drew v l:=h
theorem Own.blk (h:Own ea k e base w v l):∀ b,v.ownBlock=some b→base≤b∧b<w.heap.size:=World.ownsRow.lt h
theorem Own.ext {S:Nat→Prop} {w':World} (h:Own ea k e base w v l) (hx:Ext S w w') (hn:∀ b,v.ownBlock=some b→¬ S b):Own ea k e base w' v l:=by
 obtain ⟨h1,h2⟩:=h
 refine ⟨h1,h2.imp id ?_⟩
 rintro ⟨g,cap,cur,hv,hb,hg,h3⟩
 have hlt:=(Array.getElem?_eq_some_iff.1 hg).1
 exact ⟨g,cap,cur,hv,hb,(hx.block g hlt (hn g (by rw[hv];rfl))).trans hg,h3⟩
theorem Own.mono {b':Nat} (h:Own ea k e base w v l) (hb:b'≤base):Own ea k e b' w v l:=by
 obtain ⟨h1,h2⟩:=h
 refine ⟨h1,h2.imp id ?_⟩
 rintro ⟨g,cap,cur,hv,hb',h3⟩
 exact ⟨g,cap,cur,hv,by omega,h3⟩
theorem Own.slice (h:Own ea k e base w v l) (hk:∀ x,(ea x).length=k):Z0 ea k w v l:=by
 have h0:=h
 obtain ⟨h1,h2⟩:=h
 rcases h2 with ⟨rfl,hn⟩|⟨g,cap,cur,rfl,hb,hg,hnc,hcm,hcs,htake⟩
 ·have:l=[]:=List.eq_nil_of_length_eq_zero hn
  subst this
  exact ⟨none,0,rfl,Nat.le_refl _,Nat.zero_le _,fun hne=>absurd rfl hne⟩
 ·refine ⟨some ⟨g,0,none⟩,cap,rfl,hnc,hcm,fun _=>⟨g,0,rfl,fun i x hi j u hj=>?_⟩⟩
  have hil:=(List.getElem?_eq_some_iff.1 hi).1
  have hjl:=(List.getElem?_eq_some_iff.1 hj).1
  rw[hk] at hjl
  have hlt:i*k+j<l.length*k:=by
   have:=Nat.mul_le_mul_right k (show i+1≤l.length from hil)
   rw[Nat.add_mul,Nat.one_mul] at this
   omega
  have:=World.ownsRow.cellAt h0 (i*k+j) hlt
  rw[getElem?_flatMap_k hk l i x hi j u hj] at this
  rw[Nat.zero_add]
  exact this
theorem Own.tag (h:Own ea k e base w v l) {b:Nat} (hb:v.ownBlock=some b):∃ cur,w.heap[b]?=some (.cells cur e (0,0)):=by
 obtain ⟨_,h3⟩:=h
 rcases h3 with ⟨h3,_⟩|⟨g,cap,cur,h3,_,hg,_⟩
 ·rw[h3] at hb;cases hb
 ·rw[h3] at hb;cases hb;exact ⟨cur,hg⟩
theorem Own.eq_slice (h:Own ea k e base w v l):(v=.slice none 0 0∧l=[])∨∃ g cap,v=.slice (some ⟨g,0,none⟩) l.length cap∧base≤g∧g<w.heap.size:=by
 obtain ⟨h1,h2⟩:=h
 rcases h2 with ⟨rfl,hn⟩|⟨g,cap,cur,rfl,hb,hg,h3⟩
 ·exact .inl ⟨rfl,List.eq_nil_of_length_eq_zero hn⟩
 ·exact .inr ⟨g,cap,rfl,hb,(Array.getElem?_eq_some_iff.1 hg).1⟩
theorem Ext.of_grown {w w':World} {row:Option Nat} (h:w.grownBy w' row):Ext (fun b=>row=some b) w w' :=
 ⟨h.os,h.tape,h.output,h.size,fun b hb hn=>h.block b hb (fun e=>hn e.symm)⟩
theorem Y8 {P:Program} {ops:Array Oper} {rest:List Oper} {o:Oper} {a:Act} {Q:Exit→Act→World→Prop} (hgd:o.guard=none) (s x:Operand) (t:TypeId)
  (ho:o.op=.call { callee:=.builtin .append,args:=#[s,x],argTypes:=#[t,t] })
  (i:TypeInfo) (z:Value) (bytes:Nat) (ht:P.underlying t=some (.slice e)) (hi:P.info? e=some i) (hz:i.zero=some z)
  (hsize:i.size=k) (hby:i.bytes=bytes) (hzs:z.cells.size=k) (hk0:0<k) (hk:∀ x,(ea x).length=k) (h1:∀ x,∀ u∈ea x,u.oneCell'=true)
  (hs:a.eval s=v) (hown:Own ea k e base w v l) (y:α) (nb c:Nat) (hx:a.eval x=.slice (some ⟨nb,0,none⟩) 1 c) (hnews:∀ j u,(ea y)[j]?=some u→w.cell? ⟨nb,j,none⟩=some u)
  (h63:l.length+1≤maxLen) (hbytes:(l.length+1)*bytes≤140737488355328) (hbase:base≤w.heap.size)
  (h:∀ v' w',Own ea k e base w' v' (l++[y])→Ext (fun b=>v.ownBlock=some b) w w'→wpList P ops Q rest (a.put o.dst v') w'):wpList P ops Q (o :: rest) a w:=by
 refine wpList_append_own w hgd s x t ho base e i z k bytes ht hi hz hsize hby hzs hk0 v l.length (l.flatMap ea) hs hown ⟨nb,0,none⟩ 1 c (ea y) hx (by rw[hk,Nat.one_mul]) (fun j u hj=>?_) (h1 y) h63 hbytes hbase (fun v' w' h2 h3 _=>h v' w' ?_ (Ext.of_grown h3))
 ·have:=hnews j u hj
  rw[show (Addr.add ⟨nb,0,none⟩ j)=⟨nb,j,none⟩ from by unfold Addr.add;split <;> simp_all]
  exact this
 ·unfold Own
  rw[List.length_append,List.flatMap_append]
  simpa using h2
end
end Go.Proofs.YtgmdimbiipemhaaGreatDoor
namespace Go.Proofs.YtgmdimbiipemhaaGreatDoor
open Go.RowKit Go.Deep
structure OpD where
 id:St
 d0:Int
 d1:Int
 d2:Int
 d3:Int
 d4:Int
 d5:Int
 d6:Int
 d7:Int
 kind:Int
 ref:St
 side:Int
 ch:Int
 under:St
 key:ByteArray
 name:ByteArray
 value:ByteArray
 fr:St
 fa:Bool
 tr:St
 ta:Bool
 deriving DecidableEq
def OpD.cells (x:OpD):List Value:=[.int .i64 x.id.n,.int .i64 x.id.r,.int .i64 x.d0,.int .i64 x.d1,.int .i64 x.d2,.int .i64 x.d3,.int .i64 x.d4,.int .i64 x.d5,.int .i64 x.d6,.int .i64 x.d7,.int .i64 x.kind,.int .i64 x.ref.n,.int .i64 x.ref.r,.int .i64 x.side,.int .i64 x.ch,.int .i64 x.under.n,.int .i64 x.under.r,.string x.key,.string x.name,.string x.value,.int .i64 x.fr.n,.int .i64 x.fr.r,.bool x.fa,.int .i64 x.tr.n,.int .i64 x.tr.r,.bool x.ta]
theorem OpD.len (x:OpD):x.cells.length=26:=rfl
theorem OpD.one (x:OpD):∀ u∈x.cells,u.oneCell'=true:=by
 intro u hu
 simp only[OpD.cells,List.mem_cons,List.not_mem_nil,or_false] at hu
 rcases hu with rfl|rfl|rfl|rfl|rfl|rfl|rfl|rfl|rfl|rfl|rfl|rfl|rfl|rfl|rfl|rfl|rfl|rfl|rfl|rfl|rfl|rfl|rfl|rfl|rfl|rfl <;> rfl
def OpD.val (x:OpD):Value:=.agg x.cells.toArray
def OpD.deps (x:OpD):List Int:=[x.d0,x.d1,x.d2,x.d3,x.d4,x.d5,x.d6,x.d7]
def V5 (ds:List Int) (s:St):Bool:=decide (0≤s.r∧s.r<8) && decide (s.n≤ds.getD s.r.toNat 0)
def OpD.may (x:OpD) (s:St):Bool:=ZS s && V5 x.deps s
theorem Ra (w:World) (cs:List Value) (T:TypeId) (j:Nat) (u:Value) (h:cs[j]?=some u):(w.alloc (.cells cs.toArray T)).cell? ⟨w.heap.size,j,none⟩=some u:=by
 rw[World.cell?_alloc_at _ _ _ _ rfl,←h]
 simp
end Go.Proofs.YtgmdimbiipemhaaGreatDoor
namespace Go.Proofs.YtgmdimbiipemhaaGreatDoor
open Go
section
variable {P:Program} {ops:Array Oper} {Q:Exit→Act→World→Prop} {md:Region.Mode} {S:World→Prop} {Z:Nat→Bool}
def Y7 (P:Program) (md:Region.Mode) (ops:Array Oper) (Q:Exit→Act→World→Prop) (S:World→Prop) (Z:Nat→Bool):Nat→Array Bool→Act→World→Prop
 | 0,listed,a,w=>Region.ready md ops listed=[]∧Q .normal a w
 | fuel+1,listed,a,w =>
  (Region.ready md ops listed=[]→Q .normal a w) ∧
  ∀ i∈Region.ready md ops listed,wpOp P ops Q i (fun a' w'=>(Z i=false→S w')∧Y7 P md ops Q S Z fuel (listed.setIfInBounds i true) a' w') a w
theorem Si:∀ (fuel:Nat) (listed:Array Bool) (a:Act) (w:World),Y7 P md ops Q S Z fuel listed a w→wpAny P md ops Q fuel listed a w
 | 0,_,_,_,h=>h
 | fuel+1,_,_,_,h=>⟨h.1,fun i hi=>wpOp_mono (fun a' w' h'=>Si fuel _ a' w' h'.2) (h.2 i hi)⟩
def Z6g (listed:Array Bool) (js:List Nat):Array Bool:=js.foldl (fun l j=>l.setIfInBounds j true) listed
theorem Z0s {k:Nat}:∀ (js:List Nat) (listed:Array Bool),(Z6g listed js).getD k true=false→listed.getD k true=false
 | [],_,h=>h
 | j :: js,listed,h=>by
  have h1:=Z0s js (listed.setIfInBounds j true) h
  by_cases hjk:j=k
  ·subst hjk
   by_cases hs:j<listed.size
   ·simp[hs] at h1
   ·simp[hs] at h1
  ·rwa [getD_set_ne true hjk] at h1
theorem Z03 {k:Nat}:∀ (js:List Nat) (listed:Array Bool),k∉js→listed.getD k true=false→(Z6g listed js).getD k true=false
 | [],_,_,h=>h
 | j :: js,listed,hn,h=>Z03 js _ (fun e=>hn (by simp[e])) (by rw[getD_set_ne true (fun e=>hn (by simp[e]))];exact h)
theorem Z6y {listed:Array Bool} {k:Nat} (h:listed.getD k true=false):listed.getD k false=false:=by
 by_cases hs:k<listed.size
 ·simp[hs] at h ⊢;exact h
 ·simp[hs] at h
def Sn (md:Region.Mode) (ops:Array Oper) (i:Nat) (oi:Oper) (listed:Array Bool):Prop :=
 i∈Region.ready md ops listed∧∀ js,i∉js→∀ j oj,j∈Region.ready md ops (Z6g listed js)→j≠i→ops[j]?=some oj→(∀ e∈oj.after,Region.binds md e=true→e.on≠i)∧oi.apart ops oj=true
theorem Sn.step {i j:Nat} {oi:Oper} {listed:Array Bool} (h:Sn md ops i oi listed) (hj:j≠i):Sn md ops i oi (listed.setIfInBounds j true) :=
 ⟨ready_mono h.1 (Ne.symm hj),fun js hn=>h.2 (j :: js) (by simp[hn,Ne.symm hj])⟩
theorem Sn.of_free {i:Nat} {oi:Oper} {listed:Array Bool} (hi:ops[i]?=some oi) (hr:i∈Region.ready md ops listed) (hf:Region.free md ops listed i=true):Sn md ops i oi listed:=by
 refine ⟨hr,fun js hn j oj hj hji hoj=>?_⟩
 obtain ⟨hun,o,ho,hall⟩:=mem_ready.1 hj
 rw[hoj] at ho
 cases ho
 have hno:∀ e∈oj.after,Region.binds md e=true→e.on≠i:=fun e he hb hei=>by
  have h1:=hall e he hb
  rw[hei,Z6y (Z03 js listed hn (mem_ready.1 hr).1)] at h1
  cases h1
 exact ⟨hno,Region.free_spec hi hf j oj hoj hji (Z0s js listed hun) hno⟩
theorem Z5D {fuel:Nat} {listed:Array Bool} {a:Act} {w:World} (h:Y7 P md ops Q S Z fuel listed a w) {j:Nat} (hj:j∈Region.ready md ops listed) :
  ∃ n,fuel=n+1∧wpOp P ops Q j (fun a' w'=>(Z j=false→S w')∧Y7 P md ops Q S Z n (listed.setIfInBounds j true) a' w') a w:=by
 cases fuel with
 | zero=>exact absurd (h.1 ▸ hj:j∈[]) (by simp)
 | succ n=>exact ⟨n,rfl,h.2 j hj⟩
def Z2Y (md:Region.Mode) (ops:Array Oper) (Z:Nat→Bool) (listed:Array Bool) (i:Nat):Bool :=
 (List.range ops.size).all fun j=>listed.getD j true || !Z j || (match ops[j]? with
  | some o=>o.after.any fun e=>Region.binds md e && e.on == i
  | none=>true)
theorem Z3M {i j:Nat} {oj:Oper} {listed:Array Bool} (h:Z2Y md ops Z listed i=true) (hz:Z j=true) (hu:listed.getD j true=false) (hj:ops[j]?=some oj):∃ e∈oj.after,Region.binds md e=true∧e.on=i:=by
 have hjs:j<ops.size:=(Array.getElem?_eq_some_iff.1 hj).1
 have:=List.all_eq_true.1 h j (List.mem_range.2 hjs)
 rw[hz,hj,hu] at this
 simp only[Bool.not_true,Bool.false_or,Array.any_eq_true,Bool.and_eq_true,beq_iff_eq] at this
 obtain ⟨k,hk,h1,h2⟩:=this
 exact ⟨_,Array.getElem_mem hk,h1,h2⟩
theorem Z2D {i:Nat} {oi:Oper} {v:Value} (hi:ops[i]?=some oi)
  (hsel:∀ (j:Nat) (o:Oper) cs b,ops[j]?=some o→o.op≠.select cs b) (hQ:∀ c a w,Q (.panic c) (a.put oi.dst v) w→Q (.panic c) a w) (hiz:Z i=false) (fuel:Nat) :
  ∀ (listed:Array Bool) (a:Act) (w:World),(∀ j oj,Z j=true→listed.getD j true=false→ops[j]?=some oj→∃ e∈oj.after,Region.binds md e=true∧e.on=i)→Sn md ops i oi listed→YieldsIf P ops S oi v a→S w →
   Y7 P md ops Q S Z fuel (listed.setIfInBounds i true) (a.put oi.dst v) w→Y7 P md ops Q S Z (fuel+1) listed a w:=by
 induction fuel using Nat.strongRecOn with
 | _ fuel ih =>
  intro listed a w hwait hA hy hS H
  refine ⟨fun h0=>absurd (h0 ▸ hA.1:i∈[]) (by simp),fun j hj=>?_⟩
  rcases Decidable.em (j=i) with hji|hji
  ·rw[hji]
   exact hy.wpOp hi hS ⟨fun _=>hS,H⟩
  ·obtain ⟨n,rfl,hop⟩:=Z5D H (ready_mono hj hji)
   obtain ⟨oj,hoj⟩:∃ oj,ops[j]?=some oj:=by
    obtain ⟨_,oj,hoj,_⟩:=mem_ready.1 hj
    exact ⟨oj,hoj⟩
   obtain ⟨hno,hap⟩:=hA.2 [] (by simp) j oj hj hji hoj
   have hjz:Z j=false:=by
    cases hz:Z j with
    | false=>rfl
    | true =>
     obtain ⟨e,he,hb,hei⟩:=hwait j oj hz (mem_ready.1 hj).1 hoj
     exact absurd hei (hno e he hb)
   refine wpOp_mono ?_ (wpOp_putIf hoj hap (fun cs b=>hsel i oi cs b hi) (fun cs b=>hsel j oj cs b hoj) hQ hy hop)
   rintro a' w' ⟨hy',hS',H'⟩
   rw[Array.setIfInBounds_comm _ _ (Ne.symm hji)] at H'
   exact ⟨hS',ih n (Nat.lt_succ_self n) _ a' w' (fun q oq hq hu=>hwait q oq hq (Z0s [j] listed hu)) (hA.step hji) hy' (hS' hjz) H'⟩
theorem RK {i:Nat} {oi:Oper} {d:Option Tmp} {v:Value} {fuel:Nat} {listed:Array Bool} {a:Act} {w:World} (hi:ops[i]?=some oi) (hd:oi.dst=d) (hiz:Z i=false) (hwait:Z2Y md ops Z listed i=true)
  (hs:Region.noSelect ops=true) (hf:Region.free md ops listed i=true) (hr:(Region.ready md ops listed).contains i=true)
  (hQ:∀ c a w,Q (.panic c) (a.put d v) w→Q (.panic c) a w) (hy:YieldsIf P ops S oi v a) (hS:S w)
  (h:Y7 P md ops Q S Z fuel (listed.setIfInBounds i true) (a.put d v) w):Y7 P md ops Q S Z (fuel+1) listed a w:=by
 subst hd
 exact Z2D hi (Region.noSelect_spec hs) hQ hiz fuel listed a w (fun j oj hz hu hj=>Z3M hwait hz hu hj) (Sn.of_free hi (by simpa using hr) hf) hy hS h
theorem Ja:(∀ (T:Array Value) (D:List Deferred) (d:Tmp) (v:Value),Act.put ⟨T,D⟩ (some d) v=⟨T.setIfInBounds d v,D⟩)∧(∀ (a:Act) (v:Value),a.put none v=a)∧(∀ (l:List Value) (i:Nat) (a:Value),l.toArray.setIfInBounds i a=(l.set i a).toArray)∧(∀ (x:Value) (l:List Value) (y:Value),(x :: l).set 0 y=y :: l)∧(∀ (x:Value) (l:List Value) (i:Nat) (y:Value),(x :: l).set (i+1) y=x :: l.set i y) :=
 ⟨fun _ _ _ _=>rfl,fun _ _=>rfl,fun _ _ _=>List.setIfInBounds_toArray ..,fun _ _ _=>rfl,fun _ _ _ _=>rfl⟩
def Jd (md:Region.Mode) (ops:Array Oper) (Z:Nat→Bool) (listed:Array Bool) (i:Nat):Bool:=!Z i && (Z2Y md ops Z listed i && (Region.noSelect ops && (Region.free md ops listed i && (Region.ready md ops listed).contains i)))
theorem JR (i t:Nat) (v:Value) {oi:Oper} {fuel:Nat} {listed:Array Bool} {a:Act} {w:World} (hi:ops[i]?=some oi) (hd:oi.dst=some t) (hS:S w) (hy:∀ W,S W→(execOp a.eval oi).run P W=.ok (.value v) W)
  (h:Y7 P md ops Q S Z fuel (listed.setIfInBounds i true) (a.put (some t) v) w) (hk:Jd md ops Z listed i=true:=by kernel_rfl) (hQ:∀ c a w,Q (.panic c) (a.put (some t) v) w→Q (.panic c) a w:=by exact fun _ _ _ h=>h) (hw:Region.wanted oi (yielded ops a.tmps)=true:=by rfl):Y7 P md ops Q S Z (fuel+1) listed a w:=by
 simp only[Jd,Bool.and_eq_true,Bool.not_eq_true'] at hk
 exact RK hi hd hk.1 hk.2.1 hk.2.2.1 hk.2.2.2.1 hk.2.2.2.2 hQ (.inl ⟨hw,hy⟩) hS h
theorem J0 (i t:Nat) (v:Value) {oi:Oper} {fuel:Nat} {listed:Array Bool} {a:Act} {w:World} (hS:S w) (h:Y7 P md ops Q S Z fuel (listed.setIfInBounds i true) (a.put (some t) v) w) (hi:ops[i]?=some oi:=by rfl) (hd:oi.dst=some t:=by rfl) (hy:∀ W,S W→(execOp a.eval oi).run P W=.ok (.value v) W:=by intro W hW;go_simp;try rfl)
  (hk:Jd md ops Z listed i=true:=by kernel_rfl) (hQ:∀ c a w,Q (.panic c) (a.put (some t) v) w→Q (.panic c) a w:=by exact fun _ _ _ h=>h) (hw:Region.wanted oi (yielded ops a.tmps)=true:=by rfl):Y7 P md ops Q S Z (fuel+1) listed a w:=JR i t v hi hd hS hy h hk hQ hw
theorem J2 (i t:Nat) (v:Value) {oi:Oper} {fuel:Nat} {listed:Array Bool} {a:Act} {w:World} (hS:S w) (h:Y7 P md ops Q S Z fuel (listed.setIfInBounds i true) (a.put (some t) v) w) (hi:ops[i]?=some oi:=by rfl) (hd:oi.dst=some t:=by rfl) (hy:∀ W,S W→(execOp a.eval oi).run P W=.ok (.value v) W:=by intro W hW;obtain ⟨q0,q1⟩:=hW;go_simp;try rfl)
  (hk:Jd md ops Z listed i=true:=by kernel_rfl) (hQ:∀ c a w,Q (.panic c) (a.put (some t) v) w→Q (.panic c) a w:=by exact fun _ _ _ h=>h) (hw:Region.wanted oi (yielded ops a.tmps)=true:=by rfl):Y7 P md ops Q S Z (fuel+1) listed a w:=JR i t v hi hd hS hy h hk hQ hw
theorem J3 (i t:Nat) (v:Value) {oi:Oper} {fuel:Nat} {listed:Array Bool} {a:Act} {w:World} (hS:S w) (h:Y7 P md ops Q S Z fuel (listed.setIfInBounds i true) (a.put (some t) v) w) (hi:ops[i]?=some oi:=by rfl) (hd:oi.dst=some t:=by rfl) (hy:∀ W,S W→(execOp a.eval oi).run P W=.ok (.value v) W:=by intro W hW;obtain ⟨q0,q1,q2⟩:=hW;go_simp;try rfl)
  (hk:Jd md ops Z listed i=true:=by kernel_rfl) (hQ:∀ c a w,Q (.panic c) (a.put (some t) v) w→Q (.panic c) a w:=by exact fun _ _ _ h=>h) (hw:Region.wanted oi (yielded ops a.tmps)=true:=by rfl):Y7 P md ops Q S Z (fuel+1) listed a w:=JR i t v hi hd hS hy h hk hQ hw
theorem J4 (i t:Nat) (v:Value) {oi:Oper} {fuel:Nat} {listed:Array Bool} {a:Act} {w:World} (hS:S w) (h:Y7 P md ops Q S Z fuel (listed.setIfInBounds i true) (a.put (some t) v) w) (hi:ops[i]?=some oi:=by rfl) (hd:oi.dst=some t:=by rfl) (hy:∀ W,S W→(execOp a.eval oi).run P W=.ok (.value v) W:=by intro W hW;obtain ⟨q0,q1,q2,q3⟩:=hW;go_simp;try rfl)
  (hk:Jd md ops Z listed i=true:=by kernel_rfl) (hQ:∀ c a w,Q (.panic c) (a.put (some t) v) w→Q (.panic c) a w:=by exact fun _ _ _ h=>h) (hw:Region.wanted oi (yielded ops a.tmps)=true:=by rfl):Y7 P md ops Q S Z (fuel+1) listed a w:=JR i t v hi hd hS hy h hk hQ hw
theorem JO (i t:Nat) {oi:Oper} {fuel:Nat} {listed:Array Bool} {a:Act} {w:World} (hi:ops[i]?=some oi) (hd:oi.dst=some t) (hS:S w)
  (h:Y7 P md ops Q S Z fuel (listed.setIfInBounds i true) (a.put (some t) undef) w) (hk:Jd md ops Z listed i=true:=by kernel_rfl) (hQ:∀ c a w,Q (.panic c) (a.put (some t) undef) w→Q (.panic c) a w:=by exact fun _ _ _ h=>h) (hw:Region.wanted oi (yielded ops a.tmps)=false:=by rfl):Y7 P md ops Q S Z (fuel+1) listed a w:=by
 simp only[Jd,Bool.and_eq_true,Bool.not_eq_true'] at hk
 exact RK hi hd hk.1 hk.2.1 hk.2.2.1 hk.2.2.2.1 hk.2.2.2.2 hQ (.inr ⟨hw,rfl⟩) hS h
theorem Sk {i:Nat} {fuel:Nat} {listed:Array Bool} {a:Act} {w:World} (hr:Region.ready md ops listed=[i])
  (h:wpOp P ops Q i (fun a' w'=>(Z i=false→S w')∧Y7 P md ops Q S Z fuel (listed.setIfInBounds i true) a' w') a w):Y7 P md ops Q S Z (fuel+1) listed a w :=
 ⟨fun h0=>absurd (hr.symm.trans h0) (by simp),fun j hj=>by rw[hr] at hj;rw[List.mem_singleton.1 hj];exact h⟩
theorem Zo {i:Nat} {o:Oper} {d:Option Tmp} {fuel:Nat} {listed:Array Bool} {a:Act} {w w':World} (hr:Region.ready md ops listed=[i]) (ho:ops[i]?=some o) (hd:o.dst=d) (hw:Region.wanted o (yielded ops a.tmps)=true)
  (hv:(execOp a.eval o).run P w=.ok .skip w') (hS:Z i=false→S w') (h:Y7 P md ops Q S Z fuel (listed.setIfInBounds i true) (a.put d undef) w'):Y7 P md ops Q S Z (fuel+1) listed a w:=by
 subst hd
 exact Sk hr (wpOp_step ho fun K' hK=>by
  rw[if_pos hw,Oper.wp,hv]
  exact hK _ _ ⟨hS,h⟩)
theorem Z3 {listed:Array Bool} {a:Act} {w:World} (hr:Region.ready md ops listed=[]) (h:Q .normal a w):∀ fuel,Y7 P md ops Q S Z fuel listed a w
 | 0=>⟨hr,h⟩
 | _+1=>⟨fun _=>h,by rw[hr];simp⟩
theorem Z7 {id:Nat} {a:Act} {w:World} (S:World→Prop) (Z:Nat→Bool) (hm:P.follows .mixedOrders=true)
  (h:Y7 P .any ops Q S Z ops.size (Array.replicate ops.size false) a w.drew):(Code.region id ops true).wp P Q a w :=
 wp_region_any hm (Si _ _ _ _ h)
end
end Go.Proofs.YtgmdimbiipemhaaGreatDoor
namespace Go.Proofs.YtgmdimbiipemhaaGreatDoor
open Go.RowKit
section
variable {P:Program} {w:World} {α:Type} {ea:α→List Value} {k:Nat} {e:TypeId} {base:Nat} {v:Value} {l:List α}
theorem Z0h (t ty:TypeId) (i:TypeInfo) (z:Value) (size bytes:Nat) (ht:P.underlying t=some (.slice e)) (hi:P.info? e=some i) (hz:i.zero=some z)
  (hsize:i.size=size) (hby:i.bytes=bytes) (v:Value) (n:Nat) (xs:List Value) (hown:w.ownsRow base e size v n xs)
  (a:Addr) (m c:Nat) (news:List Value) (hl:news.length=m*size) (hnews:∀ j u,news[j]?=some u→w.cell? (a.add j)=some u) (h1:∀ u∈news,u.oneCell'=true)
  (h63:n+m≤maxLen) (hbytes:(n+m)*bytes≤140737488355328) (hm:0<m) {v':Value} {w':World}
  (hr:(Builtin.append_ #[t,t] ty #[v,.slice (some a) m c]).run P w=.ok v' w'):∀ b,v'.ownBlock=some b→v.ownBlock=some b∨w.heap.size≤b:=by
 subst hsize
 subst hby
 have hsmall:n+m≤9223372036854775807:=by simp only[maxLen] at h63;omega
 rcases hown.2 with ⟨rfl,rfl⟩|⟨g,cap,cur,rfl,hbg,hg,hnc,hcm,hcs,htake⟩
 ·have hr2:=run_append_nil (P:=P) w t ty e i z ht hi hz a m c news hl hnews hm (by omega) (by have hb:=hbytes;simp only[Nat.zero_add] at hb;omega)
  rw[hr] at hr2
  cases hr2
  intro b hb
  simp[Value.ownBlock] at hb
  exact .inr (by omega)
 ·by_cases hroom:n+m≤cap
  ·have hfit:n*i.size+news.length≤cur.size:=by rw[hl,hcs,←Nat.add_mul];exact Nat.mul_le_mul_right _ hroom
   have hr2:=run_append_room (P:=P) w t ty e i ht hi g n cap cur hg a m c news hl hnews h1 hroom hfit
   rw[hr] at hr2
   cases hr2
   intro b hb
   simp[Value.ownBlock] at hb ⊢
   exact .inl hb
  ·have holds:∀ j u,xs[j]?=some u→w.cell? ((⟨g,0,none⟩:Addr).add j)=some u:=hown.cells (g:=g) rfl
   have hr2:=run_append_grow (P:=P) w t ty e i z ht hi hz ⟨g,0,none⟩ n cap xs hown.1 holds a m c news hl hnews (by omega) (by omega) (growslice_fits (by omega) hbytes)
   rw[hr] at hr2
   cases hr2
   intro b hb
   simp[Value.ownBlock] at hb
   exact .inr (by omega)
theorem Wl (t ty:TypeId) (i:TypeInfo) (z:Value) (bytes:Nat) (ht:P.underlying t=some (.slice e)) (hi:P.info? e=some i) (hz:i.zero=some z)
  (hsize:i.size=k) (hby:i.bytes=bytes) (hzs:z.cells.size=k) (hk0:0<k) (hk:∀ x,(ea x).length=k) (h1:∀ x,∀ u∈ea x,u.oneCell'=true)
  (hown:Own ea k e base w v l) (y:α) (nb c:Nat) (hnews:∀ j u,(ea y)[j]?=some u→w.cell? ⟨nb,j,none⟩=some u)
  (h63:l.length+1≤maxLen) (hbytes:(l.length+1)*bytes≤140737488355328) (hbase:base≤w.heap.size) :
  ∃ v' w',(Builtin.append_ #[t,t] ty #[v,.slice (some ⟨nb,0,none⟩) 1 c]).run P w=.ok v' w'∧Own ea k e base w' v' (l++[y])∧Ext (fun b=>v.ownBlock=some b) w w' ∧
   ∀ b,v'.ownBlock=some b→v.ownBlock=some b∨w.heap.size≤b:=by
 have hn:∀ j u,(ea y)[j]?=some u→w.cell? (Addr.add ⟨nb,0,none⟩ j)=some u:=fun j u hj=>by
  rw[show (Addr.add ⟨nb,0,none⟩ j)=⟨nb,j,none⟩ from by unfold Addr.add;split <;> simp_all]
  exact hnews j u hj
 obtain ⟨v',w',hr,h2,h3,_⟩:=run_append_own (P:=P) w base t ty e i z k bytes ht hi hz hsize hby hzs hk0 v l.length (l.flatMap ea) hown ⟨nb,0,none⟩ 1 c (ea y) (by rw[hk,Nat.one_mul]) hn (h1 y) h63 hbytes hbase
 refine ⟨v',w',hr,?_,Ext.of_grown h3,Z0h t ty i z k bytes ht hi hz hsize hby v l.length (l.flatMap ea) hown ⟨nb,0,none⟩ 1 c (ea y) (by rw[hk,Nat.one_mul]) hn (h1 y) h63 hbytes (by omega) hr⟩
 unfold Own
 rw[List.length_append,List.flatMap_append]
 simpa using h2
theorem ZI {ops:Array Oper} {rest:List Oper} {o:Oper} {a:Act} {Q:Exit→Act→World→Prop} (hgd:o.guard=none) (s x:Operand) (t:TypeId)
  (ho:o.op=.call { callee:=.builtin .append,args:=#[s,x],argTypes:=#[t,t] })
  (i:TypeInfo) (z:Value) (bytes:Nat) (ht:P.underlying t=some (.slice e)) (hi:P.info? e=some i) (hz:i.zero=some z)
  (hsize:i.size=k) (hby:i.bytes=bytes) (hzs:z.cells.size=k) (hk0:0<k) (hk:∀ x,(ea x).length=k) (h1:∀ x,∀ u∈ea x,u.oneCell'=true)
  (hs:a.eval s=v) (hown:Own ea k e base w v l) (y:α) (nb c:Nat) (hx:a.eval x=.slice (some ⟨nb,0,none⟩) 1 c) (hnews:∀ j u,(ea y)[j]?=some u→w.cell? ⟨nb,j,none⟩=some u)
  (h63:l.length+1≤maxLen) (hbytes:(l.length+1)*bytes≤140737488355328) (hbase:base≤w.heap.size)
  (h:∀ v' w',Own ea k e base w' v' (l++[y])→Ext (fun b=>v.ownBlock=some b) w w'→(∀ b,v'.ownBlock=some b→v.ownBlock=some b∨w.heap.size≤b)→wpList P ops Q rest (a.put o.dst v') w'):wpList P ops Q (o :: rest) a w:=by
 obtain ⟨v',w',hr,h2,h3,h4⟩:=Wl (P:=P) t o.type i z bytes ht hi hz hsize hby hzs hk0 hk h1 hown y nb c hnews h63 hbytes hbase
 refine wpList_plain hgd fun _ hK=>?_
 unfold Oper.wp execOp
 simp only[ho,resolve,invoke,builtin,Sem.run_bind,Sem.run_pure,Result.andThen_ok,List.map_toArray,List.map_cons,List.map_nil,hs,hx,hr]
 exact hK _ _ (h v' w' h2 h3 h4)
theorem WK {ops:Array Oper} {o:Oper} {a:Act} {K:Act→World→Prop} {Q:Exit→Act→World→Prop} {E:Prop} (hgd:o.guard=none) (s x:Operand) (t:TypeId)
  (ho:o.op=.call { callee:=.builtin .append,args:=#[s,x],argTypes:=#[t,t] })
  (i:TypeInfo) (z:Value) (bytes:Nat) (ht:P.underlying t=some (.slice e)) (hi:P.info? e=some i) (hz:i.zero=some z)
  (hsize:i.size=k) (hby:i.bytes=bytes) (hzs:z.cells.size=k) (hk0:0<k) (hk:∀ x,(ea x).length=k) (h1:∀ x,∀ u∈ea x,u.oneCell'=true)
  (hs:a.eval s=v) (hown:Own ea k e base w v l) (y:α) (nb c:Nat) (hx:a.eval x=.slice (some ⟨nb,0,none⟩) 1 c) (hnews:∀ j u,(ea y)[j]?=some u→w.cell? ⟨nb,j,none⟩=some u)
  (h63:l.length+1≤maxLen) (hbytes:(l.length+1)*bytes≤140737488355328) (hbase:base≤w.heap.size)
  (h:∀ v' w',Own ea k e base w' v' (l++[y])→Ext (fun b=>v.ownBlock=some b) w w'→(∀ b,v'.ownBlock=some b→v.ownBlock=some b∨w.heap.size≤b)→K (a.put o.dst v') w'):if Region.wanted o (yielded ops a.tmps)=true then Oper.wp P o a w K Q else E:=by
 have hw:Region.wanted o (yielded ops a.tmps)=true:=by simp[Region.wanted,hgd]
 rw[if_pos hw]
 obtain ⟨v',w',hr,h2,h3,h4⟩:=Wl (P:=P) t o.type i z bytes ht hi hz hsize hby hzs hk0 hk h1 hown y nb c hnews h63 hbytes hbase
 unfold Oper.wp execOp
 simp only[ho,resolve,invoke,builtin,Sem.run_bind,Sem.run_pure,Result.andThen_ok,List.map_toArray,List.map_cons,List.map_nil,hs,hx,hr]
 exact h v' w' h2 h3 h4
theorem Z5P {ops:Array Oper} {o:Oper} {a:Act} {K:Act→World→Prop} {Q:Exit→Act→World→Prop} {E:Prop} {f:FuncId} {args:Array Value} (hgd:o.guard=none)
  (hv:(execOp a.eval o).run P w=.ok (.enter f args) w) (h:Calls P f args w fun e w'=>∃ v,e=.returned v∧K (a.put o.dst v) w'):if Region.wanted o (yielded ops a.tmps)=true then Oper.wp P o a w K Q else E:=by
 have hw:Region.wanted o (yielded ops a.tmps)=true:=by simp[Region.wanted,hgd]
 rw[if_pos hw,Oper.wp,hv,Oper.upon_enter]
 refine Calls.mono h ?_
 rintro e w'' ⟨v,rfl,h1⟩
 exact h1
end
end Go.Proofs.YtgmdimbiipemhaaGreatDoor
namespace Go.Proofs.YtgmdimbiipemhaaGreatDoor
open Go Go.RowKit Go.Deep
section
variable {P:Program} {ops:Array Oper} {Q:Exit→Act→World→Prop} {md:Region.Mode} {S:World→Prop} {Z:Nat→Bool}
theorem Zj {i:Nat} {o:Oper} {d:Option Tmp} {v:Value} {fuel:Nat} {listed:Array Bool} {a:Act} {w w':World} (hr:Region.ready md ops listed=[i]) (ho:ops[i]?=some o) (hd:o.dst=d) (hw:Region.wanted o (yielded ops a.tmps)=true)
  (hv:(execOp a.eval o).run P w=.ok (.value v) w') (hS:Z i=false→S w') (h:Y7 P md ops Q S Z fuel (listed.setIfInBounds i true) (a.put d v) w'):Y7 P md ops Q S Z (fuel+1) listed a w:=by
 subst hd
 exact Sk hr (wpOp_step ho fun K' hK=>by
  rw[if_pos hw,Oper.wp,hv]
  exact hK _ _ ⟨hS,h⟩)
theorem Zm {i:Nat} {o:Oper} {d:Option Tmp} {f:FuncId} {args:Array Value} {fuel:Nat} {listed:Array Bool} {a:Act} {w w':World} (hr:Region.ready md ops listed=[i]) (ho:ops[i]?=some o) (hd:o.dst=d) (hw:Region.wanted o (yielded ops a.tmps)=true)
  (hv:(execOp a.eval o).run P w=.ok (.enter f args) w')
  (h:Calls P f args w' fun e w''=>∃ v,e=.returned v∧(Z i=false→S w'')∧Y7 P md ops Q S Z fuel (listed.setIfInBounds i true) (a.put d v) w''):Y7 P md ops Q S Z (fuel+1) listed a w:=by
 subst hd
 exact Sk hr (wpOp_step ho fun K' hK=>by
  rw[if_pos hw,Oper.wp,hv,Oper.upon_enter]
  refine Calls.mono h ?_
  rintro e w'' ⟨v,rfl,h1,h2⟩
  exact hK _ _ ⟨h1,h2⟩)
theorem Xq {o:Oper} {a:Act} {w w':World} {s x:Operand} {t tn:TypeId} {v vx v':Value} (hop:o.op=.call { callee:=.builtin .append,args:=#[s,x],argTypes:=#[t,tn] }) (hs:a.eval s=v) (hx:a.eval x=vx)
  (hr:(Builtin.append_ #[t,tn] o.type #[v,vx]).run P w=.ok v' w'):(execOp a.eval o).run P w=.ok (.value v') w':=by
 unfold execOp
 simp only[hop,resolve,invoke,builtin,Sem.run_bind,Sem.run_pure,Result.andThen_ok,List.map_toArray,List.map_cons,List.map_nil,hs,hx,hr]
end
end Go.Proofs.YtgmdimbiipemhaaGreatDoor
namespace Go.Proofs
open Go.Shelf
def Tryz.mulF_ren:Go.Shelf.Ren:=⟨fun|212=>204|263=>215|264=>216|n=>n,fun|46=>189|51=>199|146=>292|53=>97|148=>294|n=>n,fun|n=>n⟩
theorem Tryz.mulF:Go.Proofs.Lays.n212 Tryz.prog Tryz.mulF_ren:={
 mixed:=by kernel_rfl
 f212:=Tryz.func204.trans (congrArg some (by kernel_rfl))
 f263:=Tryz.func215.trans (congrArg some (by kernel_rfl))
 f264:=Tryz.func216.trans (congrArg some (by kernel_rfl))
 t46:=Tryz.underlying189
 a46:=Tryz.isAgg189
 z46:=Tryz.sizeOf189
 v46:=Tryz.zeroValue189
 t51:=Tryz.underlying199
 a51:=Tryz.isAgg199
 z51:=Tryz.sizeOf199
 v51:=Tryz.zeroValue199
 t53:=Tryz.underlying97
 a53:=Tryz.isAgg97
 z53:=Tryz.sizeOf97
 v53:=Tryz.zeroValue97
 t146:=Tryz.underlying292
 a146:=Tryz.isAgg292
 z146:=Tryz.sizeOf292
 v146:=Tryz.zeroValue292
 t148:=Tryz.underlying294
 a148:=Tryz.isAgg294
 z148:=Tryz.sizeOf294
 v148:=Tryz.zeroValue294 }
def Tryz.minF_ren:Go.Shelf.Ren:=⟨fun|114=>139|n=>n,fun|28=>100|3=>3|4=>4|9=>9|20=>20|0=>0|n=>n,fun|n=>n⟩
theorem Tryz.minF:Go.Proofs.Lays.n114 Tryz.prog Tryz.minF_ren:={
 mixed:=by kernel_rfl
 f114:=Tryz.func139.trans (congrArg some (by kernel_rfl))
 t0:=Tryz.underlying0
 a0:=Tryz.isAgg0
 z0:=Tryz.sizeOf0
 v0:=Tryz.zeroValue0
 t3:=Tryz.underlying3
 a3:=Tryz.isAgg3
 z3:=Tryz.sizeOf3
 v3:=Tryz.zeroValue3
 t4:=Tryz.underlying4
 a4:=Tryz.isAgg4
 z4:=Tryz.sizeOf4
 v4:=Tryz.zeroValue4
 t9:=Tryz.underlying9
 a9:=Tryz.isAgg9
 z9:=Tryz.sizeOf9
 v9:=Tryz.zeroValue9
 t20:=Tryz.underlying20
 a20:=Tryz.isAgg20
 z20:=Tryz.sizeOf20
 v20:=Tryz.zeroValue20
 t28:=Tryz.underlying100
 a28:=Tryz.isAgg100
 z28:=Tryz.sizeOf100
 v28:=Tryz.zeroValue100 }
def Tryz.maxF_ren:Go.Shelf.Ren:=⟨fun|113=>174|n=>n,fun|28=>100|3=>3|4=>4|9=>9|20=>20|0=>0|n=>n,fun|n=>n⟩
theorem Tryz.maxF:Go.Proofs.Lays.n113 Tryz.prog Tryz.maxF_ren:={
 mixed:=by kernel_rfl
 f113:=Tryz.func174.trans (congrArg some (by kernel_rfl))
 t0:=Tryz.underlying0
 a0:=Tryz.isAgg0
 z0:=Tryz.sizeOf0
 v0:=Tryz.zeroValue0
 t3:=Tryz.underlying3
 a3:=Tryz.isAgg3
 z3:=Tryz.sizeOf3
 v3:=Tryz.zeroValue3
 t4:=Tryz.underlying4
 a4:=Tryz.isAgg4
 z4:=Tryz.sizeOf4
 v4:=Tryz.zeroValue4
 t9:=Tryz.underlying9
 a9:=Tryz.isAgg9
 z9:=Tryz.sizeOf9
 v9:=Tryz.zeroValue9
 t20:=Tryz.underlying20
 a20:=Tryz.isAgg20
 z20:=Tryz.sizeOf20
 v20:=Tryz.zeroValue20
 t28:=Tryz.underlying100
 a28:=Tryz.isAgg100
 z28:=Tryz.sizeOf100
 v28:=Tryz.zeroValue100 }
def Tryz.cloneF_ren:Go.Shelf.Ren:=⟨fun|15=>146|n=>n,fun|22=>100|3=>3|4=>4|n=>n,fun|n=>n⟩
theorem Tryz.cloneF:Go.Proofs.Lays2.n15 Tryz.prog Tryz.cloneF_ren:={
 mixed:=by kernel_rfl
 f15:=Tryz.func146.trans (congrArg some (by kernel_rfl))
 t3:=Tryz.underlying3
 a3:=Tryz.isAgg3
 z3:=Tryz.sizeOf3
 v3:=Tryz.zeroValue3
 t4:=Tryz.underlying4
 a4:=Tryz.isAgg4
 z4:=Tryz.sizeOf4
 v4:=Tryz.zeroValue4
 t22:=Tryz.underlying100
 a22:=Tryz.isAgg100
 z22:=Tryz.sizeOf100
 v22:=Tryz.zeroValue100
 i3:=by kernel_rfl }
def Tryz.sufF_ren:Go.Shelf.Ren:=⟨fun|100=>177|207=>203|n=>n,fun|9=>9|4=>4|3=>3|n=>n,fun|n=>n⟩
theorem Tryz.sufF:Go.Proofs.Lays.n100 Tryz.prog Tryz.sufF_ren:={
 mixed:=by kernel_rfl
 f100:=Tryz.func177.trans (congrArg some (by kernel_rfl))
 f207:=Tryz.func203.trans (congrArg some (by kernel_rfl))
 t3:=Tryz.underlying3
 a3:=Tryz.isAgg3
 z3:=Tryz.sizeOf3
 v3:=Tryz.zeroValue3
 t4:=Tryz.underlying4
 a4:=Tryz.isAgg4
 z4:=Tryz.sizeOf4
 v4:=Tryz.zeroValue4
 t9:=Tryz.underlying9
 a9:=Tryz.isAgg9
 z9:=Tryz.sizeOf9
 v9:=Tryz.zeroValue9 }
def Tryz.trimF_ren:Go.Shelf.Ren:=⟨fun|160=>176|232=>197|231=>196|227=>198|234=>200|233=>199|236=>202|235=>201|228=>211|271=>214|151=>213|197=>212|120=>220|152=>219|260=>218|137=>221|119=>222|224=>223|225=>224|217=>225|266=>226|n=>n,fun|9=>9|4=>4|3=>3|5=>5|117=>277|116=>276|0=>0|124=>280|21=>21|105=>289|46=>189|119=>300|139=>303|138=>302|n=>n,fun|3=>2|4=>3|n=>n⟩
theorem Tryz.trimF:Go.Proofs.Lays.n160 Tryz.prog Tryz.trimF_ren:={
 mixed:=by kernel_rfl
 f119:=Tryz.func222.trans (congrArg some (by kernel_rfl))
 f120:=Tryz.func220.trans (congrArg some (by kernel_rfl))
 f137:=Tryz.func221.trans (congrArg some (by kernel_rfl))
 f151:=Tryz.func213.trans (congrArg some (by kernel_rfl))
 f152:=Tryz.func219.trans (congrArg some (by kernel_rfl))
 f160:=Tryz.func176.trans (congrArg some (by kernel_rfl))
 f197:=Tryz.func212.trans (congrArg some (by kernel_rfl))
 f217:=Tryz.func225.trans (congrArg some (by kernel_rfl))
 f224:=Tryz.func223.trans (congrArg some (by kernel_rfl))
 f225:=Tryz.func224.trans (congrArg some (by kernel_rfl))
 f227:=Tryz.func198.trans (congrArg some (by kernel_rfl))
 f228:=Tryz.func211.trans (congrArg some (by kernel_rfl))
 f231:=Tryz.func196.trans (congrArg some (by kernel_rfl))
 f232:=Tryz.func197.trans (congrArg some (by kernel_rfl))
 f233:=Tryz.func199.trans (congrArg some (by kernel_rfl))
 f234:=Tryz.func200.trans (congrArg some (by kernel_rfl))
 f235:=Tryz.func201.trans (congrArg some (by kernel_rfl))
 f236:=Tryz.func202.trans (congrArg some (by kernel_rfl))
 f260:=Tryz.func218.trans (congrArg some (by kernel_rfl))
 f266:=Tryz.func226.trans (congrArg some (by kernel_rfl))
 f271:=Tryz.func214.trans (congrArg some (by kernel_rfl))
 t0:=Tryz.underlying0
 a0:=Tryz.isAgg0
 z0:=Tryz.sizeOf0
 v0:=Tryz.zeroValue0
 t3:=Tryz.underlying3
 a3:=Tryz.isAgg3
 z3:=Tryz.sizeOf3
 v3:=Tryz.zeroValue3
 t4:=Tryz.underlying4
 a4:=Tryz.isAgg4
 z4:=Tryz.sizeOf4
 v4:=Tryz.zeroValue4
 t5:=Tryz.underlying5
 a5:=Tryz.isAgg5
 z5:=Tryz.sizeOf5
 v5:=Tryz.zeroValue5
 t9:=Tryz.underlying9
 a9:=Tryz.isAgg9
 z9:=Tryz.sizeOf9
 v9:=Tryz.zeroValue9
 t21:=Tryz.underlying21
 a21:=Tryz.isAgg21
 z21:=Tryz.sizeOf21
 v21:=Tryz.zeroValue21
 t46:=Tryz.underlying189
 a46:=Tryz.isAgg189
 z46:=Tryz.sizeOf189
 v46:=Tryz.zeroValue189
 t105:=Tryz.underlying289
 a105:=Tryz.isAgg289
 z105:=Tryz.sizeOf289
 v105:=Tryz.zeroValue289
 t116:=Tryz.underlying276
 a116:=Tryz.isAgg276
 z116:=Tryz.sizeOf276
 t117:=Tryz.underlying277
 a117:=Tryz.isAgg277
 z117:=Tryz.sizeOf277
 v117:=Tryz.zeroValue277
 t119:=Tryz.underlying300
 a119:=Tryz.isAgg300
 z119:=Tryz.sizeOf300
 t124:=Tryz.underlying280
 a124:=Tryz.isAgg280
 z124:=Tryz.sizeOf280
 v124:=Tryz.zeroValue280
 t138:=Tryz.underlying302
 a138:=Tryz.isAgg302
 z138:=Tryz.sizeOf302
 v138:=Tryz.zeroValue302
 t139:=Tryz.underlying303
 a139:=Tryz.isAgg303
 z139:=Tryz.sizeOf303
 v139:=Tryz.zeroValue303
 g3:=by kernel_rfl
 g4:=by kernel_rfl }
end Go.Proofs
namespace Go.Proofs.YtgmdimbiipemhaaGreatDoor
open Go.RowKit Go.Deep
open Go.Shelf
theorem Z1J (n r:Int) (w:World):Calls Tryz.prog 195 #[.agg #[.int .i64 n,.int .i64 r]] w fun e w'=>e=.returned (.bool (decide (0≤r∧r<8)))∧Below w.heap.size w w':=by
 by_cases h3:0≤r
 ·by_cases h4:r<8
  ·rw[decide_eq_true ⟨h3,h4⟩]
   go_enter Tryz.func195,Tryz.ntmps195
   go_wp2
   go_ret
   exact ⟨rfl,(Below.refl _ _).alloc (Nat.le_refl _) _⟩
  ·rw[decide_eq_false (fun h=>h4 h.2)]
   go_enter Tryz.func195,Tryz.ntmps195
   go_wp2
   go_ret
   exact ⟨rfl,(Below.refl _ _).alloc (Nat.le_refl _) _⟩
 ·rw[decide_eq_false (fun h=>h3 h.1)]
  go_enter Tryz.func195,Tryz.ntmps195
  go_wp2
  go_ret
  exact ⟨rfl,(Below.refl _ _).alloc (Nat.le_refl _) _⟩
theorem Z7w (d0 d1 d2 d3 d4 d5 d6 d7 n r:Int) (w:World):Calls Tryz.prog 175 #[.agg #[.int .i64 d0,.int .i64 d1,.int .i64 d2,.int .i64 d3,.int .i64 d4,.int .i64 d5,.int .i64 d6,.int .i64 d7],.agg #[.int .i64 n,.int .i64 r]] w fun e w'=>e=.returned (.bool (V5 [d0,d1,d2,d3,d4,d5,d6,d7] ⟨n,r⟩))∧Below w.heap.size w w':=by
 have HDS:∀ k:Nat,k<8→([.int .i64 d0,.int .i64 d1,.int .i64 d2,.int .i64 d3,.int .i64 d4,.int .i64 d5,.int .i64 d6,.int .i64 d7]:List Value)[k]?=some (.int .i64 (([d0,d1,d2,d3,d4,d5,d6,d7]:List Int).getD k 0)):=fun k hk=>by
  match k,hk with
  | 0,_=>rfl
  | 1,_=>rfl
  | 2,_=>rfl
  | 3,_=>rfl
  | 4,_=>rfl
  | 5,_=>rfl
  | 6,_=>rfl
  | 7,_=>rfl
 obtain ⟨W0,hW0⟩:=Je ((w.alloc (.cells #[.int .i64 d0,.int .i64 d1,.int .i64 d2,.int .i64 d3,.int .i64 d4,.int .i64 d5,.int .i64 d6,.int .i64 d7] 32)).alloc (.cells #[.int .i64 n,.int .i64 r] 62))
 have HB:Hid (Below w.heap.size w W0.drew):=Jh (by rw[←hW0];exact (((Below.refl _ _).alloc (Nat.le_refl _) _).alloc (by simp) _).drew)
 have hc0:W0.cell? ⟨w.heap.size+1,0,none⟩=some (.int .i64 n):=by rw[←hW0];clear hW0;go_simp
 have hc1:W0.cell? ⟨w.heap.size+1,1,none⟩=some (.int .i64 r):=by rw[←hW0];clear hW0;go_simp
 have hcd:∀ k:Nat,k<8→W0.cell? ⟨w.heap.size,k,none⟩=some (.int .i64 (([d0,d1,d2,d3,d4,d5,d6,d7]:List Int).getD k 0)):=fun k hk=>by
  rw[←hW0]
  exact Zy (Ra w [.int .i64 d0,.int .i64 d1,.int .i64 d2,.int .i64 d3,.int .i64 d4,.int .i64 d5,.int .i64 d6,.int .i64 d7] _ k _ (HDS k hk)) _
 have HCD:=Lib.hid hcd
 have HW:=Lib.hid hW0
 clear hcd HDS hW0
 by_cases hr:0≤r∧r<8
 ·obtain ⟨k,rfl⟩:∃ k:Nat,r=(k:Int):=⟨r.toNat,by omega⟩
  have hk:k<8:=by omega
  have hck:=HCD.out k hk
  obtain ⟨dk,hdk⟩:=Je (([d0,d1,d2,d3,d4,d5,d6,d7]:List Int).getD k 0)
  rw[hdk] at hck
  have hR:V5 [d0,d1,d2,d3,d4,d5,d6,d7] ⟨n,k⟩=decide (n≤dk):=by unfold V5;rw[decide_eq_true hr,Bool.true_and,←hdk];rfl
  have hK:decide ((0:Int)≤(k:Int)∧(k:Int)<8)=true:=decide_eq_true hr
  rw[hR]
  have hk8:(k:Int)<8:=by omega
  have hk0:¬ (k:Int)<0:=by omega
  have hk1:(0:Int)≤(k:Int):=by omega
  obtain ⟨db,hdb⟩:=Je (decide (n≤dk))
  rw[hdb]
  have HDB:=Lib.hid hdb
  clear hdb hR hdk hr hk
  go_enter Tryz.func175,Tryz.ntmps175
  go_upto_region 1 with fail
  rw[HW.out]
  have hS0:(fun W:World=>W.cell? ⟨w.heap.size+1,0,none⟩=some (.int .i64 n)∧W.cell? ⟨w.heap.size+1,1,none⟩=some (.int .i64 k)∧W.cell? ⟨w.heap.size,k,none⟩=some (.int .i64 dk)) W0.drew:=⟨hc0,hc1,hck⟩
  clear hc0 hc1 hck HCD HW
  refine Z7 (fun W:World=>W.cell? ⟨w.heap.size+1,0,none⟩=some (.int .i64 n)∧W.cell? ⟨w.heap.size+1,1,none⟩=some (.int .i64 k)∧W.cell? ⟨w.heap.size,k,none⟩=some (.int .i64 dk)) (fun _=>false) (by kernel_rfl) ?_
  generalize W0.drew=W1 at hS0 HB ⊢
  refine J3 0 5 (.agg #[.int .i64 n,.int .i64 k]) hS0 ?_
  try simp only[Ja]
  refine Zm (i:=1) (d:=some 6) (f:=195) (args:=#[.agg #[.int .i64 n,.int .i64 k]]) (w':=W1) (by kernel_rfl) rfl rfl (by rfl) (by go_simp;try rfl) ?_
  refine (Z1J n k W1).mono ?_
  rintro e w5 ⟨rfl,b5⟩
  rw[hK]
  have hS5:(fun W:World=>W.cell? ⟨w.heap.size+1,0,none⟩=some (.int .i64 n)∧W.cell? ⟨w.heap.size+1,1,none⟩=some (.int .i64 k)∧W.cell? ⟨w.heap.size,k,none⟩=some (.int .i64 dk)) w5:=⟨ZH b5 hS0.1,ZH b5 hS0.2.1,ZH b5 hS0.2.2⟩
  refine ⟨_,rfl,fun _=>hS5,?_⟩
  try simp only[Ja]
  refine J3 2 7 _ hS5 ?_
  try simp only[Ja]
  refine J3 3 8 _ hS5 ?_
  try simp only[Ja]
  refine J3 4 9 (.int .i64 k) hS5 ?_
  try simp only[Ja]
  refine J3 5 10 (.pointer (some ⟨w.heap.size,k,none⟩)) hS5 ?_
  try simp only[Ja]
  refine J3 6 11 (.int .i64 dk) hS5 ?_
  try simp only[Ja]
  refine J3 7 12 _ hS5 ?_
  try simp only[Ja]
  refine J3 8 13 (.int .i64 n) hS5 ?_
  try simp only[Ja]
  refine JR 9 14 (.bool db) rfl rfl hS5 (fun W hW=>by obtain ⟨q0,q1,q2⟩:=hW;have hdb:=HDB.out;go_simp;try rfl) ?_
  try simp only[Ja]
  refine J3 10 15 (.bool db) hS5 ?_
  try simp only[Ja]
  refine J3 11 4 (.bool db) hS5 ?_
  try simp only[Ja]
  refine Z3 (by kernel_rfl) ?_ _
  go_wp2_with fail
  go_ret
  exact ⟨rfl,HB.out.trans (b5.mono HB.out.size)⟩
 ·have hK:decide (0≤r∧r<8)=false:=decide_eq_false hr
  have hR:V5 [d0,d1,d2,d3,d4,d5,d6,d7] ⟨n,r⟩=false:=by unfold V5;rw[decide_eq_false hr];rfl
  rw[hR]
  clear hR hr
  go_enter Tryz.func175,Tryz.ntmps175
  go_upto_region 1 with fail
  rw[HW.out]
  have hS0:(fun W:World=>W.cell? ⟨w.heap.size+1,0,none⟩=some (.int .i64 n)∧W.cell? ⟨w.heap.size+1,1,none⟩=some (.int .i64 r)∧True) W0.drew:=⟨hc0,hc1,trivial⟩
  clear hc0 hc1 HCD HW
  refine Z7 (fun W:World=>W.cell? ⟨w.heap.size+1,0,none⟩=some (.int .i64 n)∧W.cell? ⟨w.heap.size+1,1,none⟩=some (.int .i64 r)∧True) (fun _=>false) (by kernel_rfl) ?_
  generalize W0.drew=W1 at hS0 HB ⊢
  refine J3 0 5 (.agg #[.int .i64 n,.int .i64 r]) hS0 ?_
  try simp only[Ja]
  refine Zm (i:=1) (d:=some 6) (f:=195) (args:=#[.agg #[.int .i64 n,.int .i64 r]]) (w':=W1) (by kernel_rfl) rfl rfl (by rfl) (by go_simp;try rfl) ?_
  refine (Z1J n r W1).mono ?_
  rintro e w5 ⟨rfl,b5⟩
  rw[hK]
  have hS5:(fun W:World=>W.cell? ⟨w.heap.size+1,0,none⟩=some (.int .i64 n)∧W.cell? ⟨w.heap.size+1,1,none⟩=some (.int .i64 r)∧True) w5:=⟨ZH b5 hS0.1,ZH b5 hS0.2.1,trivial⟩
  refine ⟨_,rfl,fun _=>hS5,?_⟩
  try simp only[Ja]
  refine J3 2 7 _ hS5 ?_
  try simp only[Ja]
  refine JO 3 8 rfl rfl hS5 ?_
  try simp only[Ja]
  refine JO 4 9 rfl rfl hS5 ?_
  try simp only[Ja]
  refine JO 5 10 rfl rfl hS5 ?_
  try simp only[Ja]
  refine JO 6 11 rfl rfl hS5 ?_
  try simp only[Ja]
  refine JO 7 12 rfl rfl hS5 ?_
  try simp only[Ja]
  refine JO 8 13 rfl rfl hS5 ?_
  try simp only[Ja]
  refine JO 9 14 rfl rfl hS5 ?_
  try simp only[Ja]
  refine J3 10 15 (.bool false) hS5 ?_
  try simp only[Ja]
  refine J3 11 4 (.bool false) hS5 ?_
  try simp only[Ja]
  refine Z3 (by kernel_rfl) ?_ _
  go_wp2_with fail
  go_ret
  exact ⟨rfl,HB.out.trans (b5.mono HB.out.size)⟩
def Wx (ds:List Int):Int:=Lib.maxOf ds
theorem Z6l (d0 d1 d2 d3 d4 d5 d6 d7:Int) (w:World):Calls Tryz.prog 140 #[.agg #[.int .i64 d0,.int .i64 d1,.int .i64 d2,.int .i64 d3,.int .i64 d4,.int .i64 d5,.int .i64 d6,.int .i64 d7]] w fun e w'=>e=.returned (.int .i64 (Wx [d0,d1,d2,d3,d4,d5,d6,d7]))∧Below w.heap.size w w':=by
 obtain ⟨W0,hW0⟩:=Je (w.alloc (.cells #[.int .i64 d0,.int .i64 d1,.int .i64 d2,.int .i64 d3,.int .i64 d4,.int .i64 d5,.int .i64 d6,.int .i64 d7] 32))
 have HB:Hid (Below w.heap.size w W0):=Jh (by rw[←hW0];exact ((Below.refl _ _).alloc (Nat.le_refl _) _))
 have hcon:=Any.slices_Max_int Tryz.maxF w.heap.size 0 8 8 [d0,d1,d2,d3,d4,d5,d6,d7] W0 (by omega) (by simp) (by omega) (fun j hj=>by
  rw[←hW0,Nat.zero_add]
  refine Ra w [.int .i64 d0,.int .i64 d1,.int .i64 d2,.int .i64 d3,.int .i64 d4,.int .i64 d5,.int .i64 d6,.int .i64 d7] _ j _ ?_
  match j,hj with
  | 0,_=>rfl
  | 1,_=>rfl
  | 2,_=>rfl
  | 3,_=>rfl
  | 4,_=>rfl
  | 5,_=>rfl
  | 6,_=>rfl
  | 7,_=>rfl)
 have HC:=Jh (show Calls Tryz.prog 174 #[.slice (some ⟨w.heap.size,0,none⟩) 8 8] W0 fun e w'=>e=.returned (.int .i64 (Wx [d0,d1,d2,d3,d4,d5,d6,d7]))∧w'=W0 from hcon)
 have HW:=Lib.hid hW0
 clear hcon hW0
 go_enter Tryz.func140,Tryz.ntmps140
 go_wp2_with fail
 rw[HW.out]
 refine HC.out.mono ?_
 rintro e w5 ⟨rfl,e5⟩
 rw[e5]
 go_wp2_with fail
 go_ret
 exact ⟨rfl,HB.out⟩
end Go.Proofs.YtgmdimbiipemhaaGreatDoor
namespace Go.Proofs.YtgmdimbiipemhaaGreatDoor
open Go.RowKit
structure Sl where
 a:Option Addr
 n:Nat
 cap:Nat
def Sl.val (s:Sl):Value:=.slice s.a s.n s.cap
theorem Own.sl {α:Type} {ea:α→List Value} {k:Nat} {e:TypeId} {base:Nat} {w:World} {v:Value} {l:List α} (h:Own ea k e base w v l):∃ s:Sl,v=.slice s.a s.n s.cap:=by
 rcases h.eq_slice with ⟨rfl,_⟩|⟨g,c,rfl,_,_⟩
 ·exact ⟨⟨none,0,0⟩,rfl⟩
 ·exact ⟨⟨_,_,_⟩,rfl⟩
theorem Own.nlen {α:Type} {ea:α→List Value} {q:Nat} {T:TypeId} {base:Nat} {w:World} {a:Option Addr} {n cap:Nat} {l:List α} (h:Own ea q T base w (.slice a n cap) l) (hk:∀ x,(ea x).length=q):n=l.length∧n≤cap∧cap≤9223372036854775807:=by
 obtain ⟨a,c,e1,h2,h3,h4⟩:=h.slice hk
 cases e1
 exact ⟨rfl,h2,by unfold maxLen at h3;exact h3⟩
def u8c (x:UInt8):List Value:=[.int .u8 x.toNat]
theorem Z6 (x:UInt8):(u8c x).length=1:=rfl
theorem XU (x:UInt8):∀ u∈u8c x,u.oneCell'=true:=by
 intro u hu
 simp only[u8c,List.mem_cons,List.not_mem_nil,or_false] at hu
 subst hu
 rfl
theorem Re (W:World) (x:UInt8):∀ j u,(u8c x)[j]?=some u→(W.alloc (.cells #[.int .u8 x.toNat] 5)).cell? ⟨W.heap.size,j,none⟩=some u:=by
 intro j u hj
 rw[World.cell?_alloc_at _ _ _ _ rfl,←hj,u8c]
 simp
theorem YA:(Tryz.prog.info? 5).map (fun i=>(i.zero,i.size,i.bytes))=some (some (.int .u8 0),1,1):=by kernel_rfl
def Zi (x:Int):List Value:=[.int .i64 x]
theorem Zf (x:Int):(Zi x).length=1:=rfl
theorem XA (x:Int):∀ u∈Zi x,u.oneCell'=true:=by
 intro u hu
 simp only[Zi,List.mem_cons,List.not_mem_nil,or_false] at hu
 subst hu
 rfl
theorem Wp (W:World) (x:Int):∀ j u,(Zi x)[j]?=some u→(W.alloc (.cells #[.int .i64 x] 3)).cell? ⟨W.heap.size,j,none⟩=some u:=by
 intro j u hj
 rw[World.cell?_alloc_at _ _ _ _ rfl,←hj,Zi]
 simp
theorem Wi:(Tryz.prog.info? 3).map (fun i=>(i.zero,i.size,i.bytes))=some (some (.int .i64 0),1,8):=by kernel_rfl
def btc (x:Bool):List Value:=[.bool x]
theorem Y3 (x:Bool):(btc x).length=1:=rfl
theorem VA (x:Bool):∀ u∈btc x,u.oneCell'=true:=by
 intro u hu
 simp only[btc,List.mem_cons,List.not_mem_nil,or_false] at hu
 subst hu
 rfl
theorem Un (W:World) (x:Bool):∀ j u,(btc x)[j]?=some u→(W.alloc (.cells #[.bool x] 4)).cell? ⟨W.heap.size,j,none⟩=some u:=by
 intro j u hj
 rw[World.cell?_alloc_at _ _ _ _ rfl,←hj,btc]
 simp
theorem UH:(Tryz.prog.info? 4).map (fun i=>(i.zero,i.size,i.bytes))=some (some (.bool false),1,1):=by kernel_rfl
theorem Z0.at1 {α:Type} {ea:α→List Value} {w:World} {a:Option Addr} {n cap:Nat} {l:List α} (h:Z0 ea 1 w (.slice a n cap) l) {k:Nat} {x:α} {u:Value} (hx:l[k]?=some x) (hu:ea x=[u]):∃ b o,a=some ⟨b,o,none⟩∧w.cell? ⟨b,o+k,none⟩=some u:=by
 obtain ⟨_,_,e,_,_,h4⟩:=h
 cases e
 obtain ⟨b,o,rfl,h5⟩:=h4 (by rintro rfl;simp at hx)
 have:=h5 k x hx 0 u (by rw[hu];rfl)
 rw[Nat.mul_one,Nat.add_zero] at this
 exact ⟨b,o,rfl,this⟩
theorem Z0.n_eq {α:Type} {ea:α→List Value} {q:Nat} {w:World} {a:Option Addr} {n cap:Nat} {l:List α} (h:Z0 ea q w (.slice a n cap) l):n=l.length∧n≤cap∧cap≤9223372036854775807:=by
 obtain ⟨_,_,e,h2,h3,_⟩:=h
 cases e
 exact ⟨rfl,h2,by unfold maxLen at h3;exact h3⟩
end Go.Proofs.YtgmdimbiipemhaaGreatDoor
namespace Go.Proofs.YtgmdimbiipemhaaGreatDoor
def Z5 (n:Nat):List UInt8:=if n<128 then [UInt8.ofNat n] else UInt8.ofNat (n % 128+128) :: Z5 (n / 128)
termination_by n
decreasing_by omega
theorem XM {n:Nat} (h:n<128):Z5 n=[UInt8.ofNat n]:=by rw[Z5,if_pos h]
theorem Vd {n:Nat} (h:¬ n<128):Z5 n=UInt8.ofNat (n % 128+128) :: Z5 (n / 128):=by rw[Z5,if_neg h]
theorem Wm (n:Nat):Z5 n≠[]:=by
 rw[Z5]
 split <;> simp
theorem Yv {n:Nat} (h:n<256):(UInt8.ofNat n).toNat=n:=by simp;omega
theorem Z5l:∀ (n m:Nat) (b:List UInt8),Z5 n <+: b→Z5 m <+: b→n=m:=by
 intro n
 induction n using Nat.strongRecOn with
 | ind n ih =>
  intro m b hn hm
  by_cases h1:n<128
  ·by_cases h2:m<128
   ·rw[XM h1] at hn
    rw[XM h2] at hm
    obtain ⟨t,rfl⟩:=hn
    obtain ⟨s,e⟩:=hm
    simp only[List.cons_append,List.nil_append,List.cons.injEq] at e
    have:=congrArg UInt8.toNat e.1
    rw[Yv (by omega),Yv (by omega)] at this
    exact this.symm
   ·rw[XM h1] at hn
    rw[Vd h2] at hm
    obtain ⟨t,rfl⟩:=hn
    obtain ⟨s,e⟩:=hm
    simp only[List.cons_append,List.nil_append,List.cons.injEq] at e
    have:=congrArg UInt8.toNat e.1
    rw[Yv (by omega),Yv (by omega)] at this
    omega
  ·by_cases h2:m<128
   ·rw[Vd h1] at hn
    rw[XM h2] at hm
    obtain ⟨t,rfl⟩:=hm
    obtain ⟨s,e⟩:=hn
    simp only[List.cons_append,List.nil_append,List.cons.injEq] at e
    have:=congrArg UInt8.toNat e.1
    rw[Yv (by omega),Yv (by omega)] at this
    omega
   ·rw[Vd h1] at hn
    rw[Vd h2] at hm
    cases b with
    | nil=>simp at hn
    | cons x b =>
     rw[List.cons_prefix_cons] at hn hm
     have e:=congrArg UInt8.toNat (hn.1.trans hm.1.symm)
     rw[Yv (by omega),Yv (by omega)] at e
     have:=ih (n / 128) (by omega) (m / 128) b hn.2 hm.2
     omega
def Yg:List UInt8→Nat
 | []=>0
 | x :: l=>x.toNat % 128+128*Yg l
theorem Tr:∀ (l:List UInt8) (x:UInt8),Yg (l++[x])=Yg l+x.toNat % 128*128 ^ l.length
 | [],x=>by simp[Yg]
 | y :: l,x=>by
  rw[List.cons_append,Yg,Tr l x,Yg,List.length_cons,Nat.pow_succ]
  rw[Nat.mul_add,←Nat.mul_assoc,Nat.mul_comm 128 (x.toNat % 128),Nat.mul_assoc,Nat.mul_comm 128 (128 ^ l.length)]
  omega
theorem Ua:∀ l:List UInt8,Yg l<128 ^ l.length
 | []=>by simp[Yg]
 | x :: l=>by
  have:=Ua l
  rw[Yg,List.length_cons,Nat.pow_succ]
  have:x.toNat % 128<128:=Nat.mod_lt _ (by omega)
  omega
theorem Z2z:∀ (l:List UInt8) (x:UInt8),(∀ y∈l,128≤y.toNat)→x.toNat<128→(l≠[]→x.toNat≠0)→Z5 (Yg (l++[x]))=l++[x]
 | [],x,_,h2,_=>by
  simp only[List.nil_append,Yg,Nat.mul_zero,Nat.add_zero]
  rw[Nat.mod_eq_of_lt h2,XM h2]
  simp
 | y :: l,x,h1,h2,h3=>by
  have hy:=h1 y (by simp)
  have hy2:y.toNat<256:=y.toNat_lt
  have hp:0<Yg (l++[x]):=by
   rw[Tr,Nat.mod_eq_of_lt h2]
   have:=h3 (by simp)
   have h4:0<128 ^ l.length:=Nat.pow_pos (by omega)
   have:0<x.toNat*128 ^ l.length:=Nat.mul_pos (by omega) h4
   omega
  have ih:=Z2z l x (fun z hz=>h1 z (by simp[hz])) h2 (fun _=>h3 (by simp))
  rw[List.cons_append,Yg,Vd (by omega)]
  have e1:(y.toNat % 128+128*Yg (l++[x])) / 128=Yg (l++[x]):=by omega
  have e2:(y.toNat % 128+128*Yg (l++[x])) % 128+128=y.toNat:=by omega
  rw[e1,e2,ih]
  simp
theorem Se:∀ (n:Nat),∃ l x,Z5 n=l++[x]∧(∀ y∈l,128≤y.toNat)∧x.toNat<128∧(l≠[]→x.toNat≠0)∧Yg (l++[x])=n:=by
 intro n
 induction n using Nat.strongRecOn with
 | ind n ih =>
  by_cases h:n<128
  ·refine ⟨[],UInt8.ofNat n,by rw[XM h];rfl,fun y hy=>by simp at hy,by rw[Yv (by omega)];exact h,fun h=>absurd rfl h,?_⟩
   simp only[List.nil_append,Yg]
   rw[Yv (by omega)]
   omega
  ·obtain ⟨l,x,h1,h2,h3,h4,h5⟩:=ih (n / 128) (by omega)
   refine ⟨UInt8.ofNat (n % 128+128) :: l,x,by rw[Vd h,h1];rfl,fun y hy=>?_,h3,fun _ hx=>?_,?_⟩
   ·rcases List.mem_cons.1 hy with rfl|hy
    ·rw[Yv (by omega)];omega
    ·exact h2 y hy
   ·by_cases hl:l=[]
    ·subst hl
     simp only[List.nil_append,Yg] at h5
     omega
    ·exact h4 hl hx
   ·rw[List.cons_append,Yg,h5,Yv (by omega)]
    omega
theorem Wj (n k:Nat) (hk:0<k):(Z5 n).length≤k↔n<128 ^ k:=by
 induction k generalizing n with
 | zero=>omega
 | succ k ih =>
  by_cases h:n<128
  ·rw[XM h]
   have:128≤128 ^ (k+1):=by rw[Nat.pow_succ];have:=Nat.pow_pos (n:=k) (show 0<128 by omega);omega
   simp
   omega
  ·rw[Vd h,List.length_cons,Nat.pow_succ]
   by_cases hk0:k=0
   ·subst hk0
    have:=Wm (n / 128)
    have h1:0<(Z5 (n / 128)).length:=List.length_pos_iff.2 this
    rw[Nat.pow_zero,Nat.one_mul]
    constructor
    ·intro h2;omega
    ·intro h2;exact absurd h2 h
   ·have:=ih (n / 128) (by omega)
    rw[Nat.add_le_add_iff_right,this]
    rw[Nat.div_lt_iff_lt_mul (by omega)]
def Ws (b:List UInt8) (n:Nat):Prop:=n<18446744073709551616∧Z5 n <+: b
theorem Ws.uniq {b:List UInt8} {n m:Nat} (h:Ws b n) (k:Ws b m):n=m:=Z5l n m b h.2 k.2
open Classical in
noncomputable def ZD (b:List UInt8):Option Nat:=if h:∃ n,Ws b n then some (Classical.choose h) else none
theorem ZE {b:List UInt8} {n:Nat}:ZD b=some n↔Ws b n:=by
 unfold ZD
 constructor
 ·intro h
  split at h
  ·rename_i hx
   cases h
   exact Classical.choose_spec hx
  ·cases h
 ·intro h
  have hx:∃ n,Ws b n:=⟨n,h⟩
  rw[dif_pos hx]
  exact congrArg some ((Classical.choose_spec hx).uniq h)
theorem VO {b:List UInt8}:ZD b=none↔∀ n,¬ Ws b n:=by
 constructor
 ·intro h n hn
  rw[ZE.2 hn] at h
  cases h
 ·intro h
  cases hb:ZD b with
  | none=>rfl
  | some n=>exact absurd (ZE.1 hb) (h n)
def WL (b:List UInt8) (i:Nat):Prop:=i≤b.length∧∀ (j:Nat) x,j<i→b[j]?=some x→128≤x.toNat
theorem Tn (b:List UInt8):WL b 0:=⟨Nat.zero_le _,fun j x hj=>absurd hj (by omega)⟩
theorem WL.succ {b:List UInt8} {i:Nat} {x:UInt8} (h:WL b i) (hx:b[i]?=some x) (hg:128≤x.toNat):WL b (i+1) :=
 ⟨(
  List.getElem?_eq_some_iff.1 hx).1,fun j y hj hy=>by
  by_cases e:j=i
  ·subst e;rw[hx] at hy;cases hy;exact hg
  ·exact h.2 j y (by omega) hy⟩
theorem WL.all {b:List UInt8} {i:Nat} (h:WL b i):∀ y∈b.take i,128≤y.toNat:=fun y hy=>by
 obtain ⟨j,hj⟩:=List.getElem?_of_mem hy
 rw[List.getElem?_take] at hj
 split at hj
 ·exact h.2 j y (by assumption) hj
 ·cases hj
theorem QD {b:List UInt8} {i:Nat} {x:UInt8} (hx:b[i]?=some x):b.take (i+1)=b.take i++[x]:=by
 rw[List.take_add_one,hx,Option.toList_some]
theorem WL.stop {b:List UInt8} {i:Nat} {x:UInt8} (h:WL b i) (hx:b[i]?=some x) (hl:x.toNat<128) (h0:0<i→x.toNat≠0) (hn:Yg (b.take (i+1))<18446744073709551616) :
  Ws b (Yg (b.take (i+1)))∧(Z5 (Yg (b.take (i+1)))).length=i+1:=by
 have hi:=(List.getElem?_eq_some_iff.1 hx).1
 have e:=Z2z (b.take i) x h.all hl (fun hne=>h0 (by
  by_cases e:i=0
  ·subst e;simp at hne
  ·omega))
 rw[←QD hx] at e
 refine ⟨⟨hn,?_⟩,?_⟩
 ·rw[e];exact List.take_prefix _ _
 ·rw[e,List.length_take];omega
theorem WL.bad {b:List UInt8} {i n:Nat} {x:UInt8} (h:WL b i) (hx:b[i]?=some x) (hb:(0<i∧x.toNat=0)∨(i=9∧1<x.toNat % 128)):¬ Ws b n:=fun ⟨hn,hp⟩=>by
 obtain ⟨l,y,h1,h2,h3,h4,h5⟩:=Se n
 have hlen:(Z5 n).length≤10:=(Wj n 10 (by omega)).2 (by omega)
 rw[h1] at hp hlen
 have hget:∀ j z,(l++[y])[j]?=some z→b[j]?=some z:=fun j z hz=>by
  obtain ⟨t,rfl⟩:=hp
  rw[List.getElem?_append_left (List.getElem?_eq_some_iff.1 hz).1]
  exact hz
 rw[List.length_append,List.length_cons,List.length_nil] at hlen
 have hyl:=hget l.length y (by simp)
 have hll:¬ l.length<i:=fun hlt=>by
  have:=h.2 l.length y hlt hyl
  omega
 rcases Nat.lt_or_ge i l.length with hil|hil
 ·-- it goes on behind i
  obtain ⟨z,hz⟩:∃ z,l[i]?=some z:=⟨_,List.getElem?_eq_getElem hil⟩
  have:=hget i z (by rw[List.getElem?_append_left hil];exact hz)
  rw[hx] at this
  cases this
  have hxg:=h2 x (List.mem_of_getElem? hz)
  rcases hb with ⟨_,h0⟩|⟨h9,_⟩ <;> omega
 ·have hil2:i=l.length:=by omega
  subst hil2
  rw[hx] at hyl
  cases hyl
  rcases hb with ⟨h0,hz⟩|⟨h9,hz⟩
  ·exact h4 (by intro e;rw[e] at h0;simp at h0) hz
  ·rw[Tr,h9,Nat.mod_eq_of_lt h3] at h5
   rw[Nat.mod_eq_of_lt h3] at hz
   have:2*128 ^ 9≤x.toNat*128 ^ 9:=Nat.mul_le_mul_right _ (by omega)
   omega
theorem WL.over {b:List UInt8} {i n:Nat} (h:WL b i) (hi:i=b.length∨i=10):¬ Ws b n:=fun ⟨hn,hp⟩=>by
 obtain ⟨l,y,h1,h2,h3,h4,h5⟩:=Se n
 have hlen:(Z5 n).length≤10:=(Wj n 10 (by omega)).2 (by omega)
 have hle:=hp.length_le
 rw[h1] at hp hlen hle
 rw[List.length_append,List.length_cons,List.length_nil] at hlen hle
 have hyl:b[l.length]?=some y:=by
  obtain ⟨t,rfl⟩:=hp
  rw[List.getElem?_append_left (by simp)]
  simp
 have:=h.2 l.length y (by rcases hi with hi|hi <;> omega) hyl
 omega
def Yh (n:Int):Nat:=if 0≤n then (2*n).toNat else (-2*n - 1).toNat
def YN (n:Nat):Int:=if n % 2=0 then ((n / 2:Nat):Int) else -((n / 2:Nat):Int) - 1
theorem Z0t (n:Int):YN (Yh n)=n:=by
 unfold YN Yh
 split <;> split <;> omega
theorem Z0w (n:Nat):Yh (YN n)=n:=by
 unfold YN Yh
 split <;> split <;> omega
theorem VF {n:Int} (h1:-9223372036854775808≤n) (h2:n≤9223372036854775807):Yh n<18446744073709551616:=by
 unfold Yh
 split <;> omega
theorem Z0M {n:Nat} (h:n<18446744073709551616):-9223372036854775808≤YN n∧YN n≤9223372036854775807:=by
 unfold YN
 split <;> omega
end Go.Proofs.YtgmdimbiipemhaaGreatDoor
namespace Go.Proofs.YtgmdimbiipemhaaGreatDoor
open Go.RowKit Go.Deep
theorem Qu (a b:ByteArray):a.toList=b.toList↔a=b:=by
 rw[ByteArray.toList_eq,ByteArray.toList_eq]
 constructor
 ·intro h
  obtain ⟨x⟩:=a
  obtain ⟨y⟩:=b
  exact congrArg ByteArray.mk (Array.toList_inj.1 h)
 ·intro h;rw[h]
theorem Su:Tryz.prog.underlying 9=some .string:=by kernel_rfl
theorem XK (a b:ByteArray):(a == b)=decide (a=b):=by
 rw[show (a == b)=(a.data == b.data) from by cases a;cases b;rfl]
 by_cases h:a=b
 ·subst h;simp
 ·have:¬ a.data=b.data:=fun e=>h (by cases a;cases b;cases e;rfl)
  simp[h,this]
theorem Z1q:∀ (bs:List UInt8) (s:ByteArray),(bs.map fun x=>(x.toNat:Int)).foldl (fun r n=>r.push (UInt8.ofNat n.toNat)) s=⟨(s.data.toList++bs).toArray⟩
 | [],s=>by cases s;simp
 | b :: bs,s=>by
  rw[List.map_cons,List.foldl_cons,Z1q bs]
  congr 1
  simp[ByteArray.push]
theorem Zt {W:World} {v:Value} {bs:List UInt8} (h:Z0 u8c 1 W v bs):(convert 22 9 v).run Tryz.prog W=.ok (.string ⟨bs.toArray⟩) W:=by
 obtain ⟨a,cap,rfl,hcap,hmax,hcs⟩:=h
 rw[run_convert_bytes_string W 22 9 5 a bs.length cap Tryz.underlying22 (by kernel_rfl) Tryz.underlying9]
 cases a with
 | none =>
  have hys:bs=[]:=Classical.byContradiction fun hn=>by obtain ⟨b,o,e,_⟩:=hcs hn;cases e
  subst hys
  simp[Conv.bytesToString]
  rfl
 | some ad =>
  have hl:=run_loadCells_list (P:=Tryz.prog) W ad ((bs.map fun x=>(x.toNat:Int)).map (Value.int .u8)) (fun j v hj=>by
   rw[List.map_map,List.getElem?_map] at hj
   cases hb:bs[j]? with
   | none=>rw[hb] at hj;cases hj
   | some x =>
    rw[hb] at hj
    cases hj
    obtain ⟨b,o,e,h4⟩:=hcs (by rintro rfl;simp at hb)
    cases e
    have:=h4 j x hb 0 _ rfl
    rw[Nat.mul_one,Nat.add_zero] at this
    rw[show (Addr.add ⟨b,o,none⟩ j)=⟨b,o+j,none⟩ from by unfold Addr.add;split <;> simp_all]
    exact this)
  have:=run_bytesToString (P:=Tryz.prog) W ad bs.length cap (bs.map fun x=>(x.toNat:Int)) (by simpa using hl)
  rw[this,Z1q]
  simp
theorem Z0.take1 {α:Type} {ea:α→List Value} {q:Nat} {w:World} {a:Option Addr} {cap n k:Nat} {l:List α} (h:Z0 ea q w (.slice a n cap) l) (hn:k≤l.length):Z0 ea q w (.slice a k cap) (l.take k):=by
 obtain ⟨a',cap',e,hc,hm,h4⟩:=h
 cases e
 have e:(l.take k).length=k:=by rw[List.length_take];omega
 refine ⟨a,cap,by rw[e],by omega,hm,fun hl=>?_⟩
 obtain ⟨b,off,h5,h6⟩:=h4 (by rintro rfl;simp at hl)
 refine ⟨b,off,h5,fun i x hi j u hj=>h6 i x ?_ j u hj⟩
 rw[List.getElem?_take] at hi
 split at hi
 ·exact hi
 ·cases hi
theorem Z5A {l1 l2:List UInt8} (he:l1≠l2):((⟨l1.toArray⟩:ByteArray) == ⟨l2.toArray⟩)=false∧((⟨l1.toArray⟩:ByteArray).toList == (⟨l2.toArray⟩:ByteArray).toList)=false:=by
 have h:(⟨l1.toArray⟩:ByteArray)≠⟨l2.toArray⟩:=fun e=>he (by cases e;rfl)
 refine ⟨by rw[XK];simp[h],?_⟩
 cases hh:((⟨l1.toArray⟩:ByteArray).toList == (⟨l2.toArray⟩:ByteArray).toList) with
 | false=>rfl
 | true=>exact absurd ((Qu _ _).1 (by simpa using hh)) h
theorem WL.only {b:List UInt8} {i n:Nat} {x:UInt8} (h:WL b i) (hx:b[i]?=some x) (hl:x.toNat<128) (hn:Ws b n):Z5 n=b.take (i+1)∧Yg (b.take (i+1))=n:=by
 obtain ⟨hn1,hp⟩:=hn
 obtain ⟨l,y,h1,h2,h3,h4,h5⟩:=Se n
 rw[h1] at hp ⊢
 have hget:∀ j z,(l++[y])[j]?=some z→b[j]?=some z:=fun j z hz=>by
  obtain ⟨t,rfl⟩:=hp
  rw[List.getElem?_append_left (List.getElem?_eq_some_iff.1 hz).1]
  exact hz
 have hyl:=hget l.length y (by simp)
 have hll:¬ l.length<i:=fun hlt=>by
  have:=h.2 l.length y hlt hyl
  omega
 have hgg:¬ i<l.length:=fun hlt=>by
  obtain ⟨z,hz⟩:∃ z,l[i]?=some z:=⟨_,List.getElem?_eq_getElem hlt⟩
  have:=hget i z (by rw[List.getElem?_append_left hlt];exact hz)
  rw[hx] at this
  cases this
  have:=h2 x (List.mem_of_getElem? hz)
  omega
 have hil:i=l.length:=by omega
 subst hil
 have e:l++[y]=b.take (l.length+1):=by
  obtain ⟨t,rfl⟩:=hp
  rw[List.take_append_of_le_length (by simp),List.take_of_length_le (by simp)]
 exact ⟨e,by rw[←e];exact h5⟩
end Go.Proofs.YtgmdimbiipemhaaGreatDoor
namespace Go.Proofs.YtgmdimbiipemhaaGreatDoor
open Go.RowKit Go.Deep Go.Shelf
def YG (s:ByteArray):Bool:=decide (1≤s.size∧s.size≤8) && s.data.toList.all fun c=>decide (97≤c.toNat∧c.toNat≤122)
def YD (s:ByteArray):Bool:=decide (s.size≤16) && s.data.toList.all fun c=>decide (32≤c.toNat∧c.toNat≤126)
def YS (s:ByteArray):Bool:=decide (1≤s.size∧s.size≤64) && (s.data.toList.all fun c=>decide (48≤c.toNat∧c.toNat≤57∨97≤c.toNat∧c.toNat≤122)) && decide (s.data.toList.getLast?≠some 48)
theorem R6 {α:Type} (p:α→Bool):∀ l:List α,l.dropWhile p=[]↔∀ x∈l,p x=true
 | []=>by simp
 | x :: l=>by
  rw[List.dropWhile_cons]
  split
  ·rename_i h
   rw[R6 p l]
   simp[h]
  ·rename_i h
   simp[h]
theorem Tg (l cs:List UInt8):Lib.trimS l cs=[]↔∀ c∈l,c∈cs:=by
 unfold Lib.trimS Lib.trimRightS Lib.trimLeftS
 constructor
 ·intro h c hc
  rw[R6] at h
  by_cases hx:c∈(l.reverse.dropWhile (cs.contains ·)).reverse
  ·simpa using h c hx
  ·have h2:c∈l.reverse:=by simpa using hc
   rw[←List.takeWhile_append_dropWhile (p:=(cs.contains ·)) (l:=l.reverse)] at h2
   rcases List.mem_append.1 h2 with h2|h2
   ·have:=List.all_takeWhile (p:=(cs.contains ·)) (l:=l.reverse)
    simpa using List.all_eq_true.1 this c h2
   ·exact absurd (by simpa using h2) hx
 ·intro h
  have:l.reverse.dropWhile (cs.contains ·)=[]:=by
   rw[R6]
   intro c hc
   simpa using h c (by simpa using hc)
  rw[this]
  rfl
def Vu:List UInt8:=[97,98,99,100,101,102,103,104,105,106,107,108,109,110,111,112,113,114,115,116,117,118,119,120,121,122]
def Ur:List UInt8:=[48,49,50,51,52,53,54,55,56,57,97,98,99,100,101,102,103,104,105,106,107,108,109,110,111,112,113,114,115,116,117,118,119,120,121,122]
theorem RY (c:UInt8):c∈Vu↔97≤c.toNat∧c.toNat≤122:=by
 have key:∀ n:Fin 256,(UInt8.ofNat n.val)∈Vu↔97≤n.val∧n.val≤122:=by decide +kernel
 have:=key ⟨c.toNat,c.toNat_lt⟩
 simpa using this
theorem Z1V (c:UInt8):c∈Ur↔(48≤c.toNat∧c.toNat≤57∨97≤c.toNat∧c.toNat≤122):=by
 have key:∀ n:Fin 256,(UInt8.ofNat n.val)∈Ur↔(48≤n.val∧n.val≤57∨97≤n.val∧n.val≤122):=by decide +kernel
 have:=key ⟨c.toNat,c.toNat_lt⟩
 simpa using this
theorem WQ (s:ByteArray):s.data.toList.length=s.size:=by simp
theorem Z2j (l:List UInt8):(⟨l.toArray⟩:ByteArray).toList.isEmpty=decide (l=[]):=by
 rw[ByteArray.toList_eq]
 cases l with
 | nil=>rfl
 | cons x l=>rw[decide_eq_false (by simp)];rfl
theorem Z4A {s:ByteArray} (h1:1≤s.size) (h2:s.size≤8):YG s=decide (Lib.trimS s.data.toList Vu=[]):=by
 unfold YG
 rw[decide_eq_true ⟨h1,h2⟩,Bool.true_and]
 by_cases ht:Lib.trimS s.data.toList Vu=[]
 ·rw[decide_eq_true ht]
  rw[Tg] at ht
  exact List.all_eq_true.2 fun c hc=>decide_eq_true ((RY c).1 (ht c hc))
 ·rw[decide_eq_false ht]
  refine Bool.eq_false_iff.2 fun h=>ht ?_
  rw[Tg]
  exact fun c hc=>(RY c).2 (of_decide_eq_true (List.all_eq_true.1 h c hc))
theorem Z5z {s:ByteArray} (h1:1≤s.size) (h2:s.size≤64):YS s=(decide (Lib.trimS s.data.toList Ur=[]) && !(Lib.hasSuffix s.data.toList [48])):=by
 have e2:(!(Lib.hasSuffix s.data.toList [48]))=decide (s.data.toList.getLast?≠some 48):=by
  unfold Lib.hasSuffix
  by_cases h:s.data.toList.getLast?=some 48
  ·rw[decide_eq_false (by simp[h])]
   have:[48] <:+ s.data.toList:=by
    obtain ⟨ys,hys⟩:=List.getLast?_eq_some_iff.1 h
    exact ⟨ys,hys.symm⟩
   simp[List.isSuffixOf_iff_suffix.2 this]
  ·rw[decide_eq_true h]
   have:¬ [48] <:+ s.data.toList:=fun ⟨ys,hys⟩=>h (by rw[←hys];simp)
   have h3:[48].isSuffixOf s.data.toList=false:=Bool.eq_false_iff.2 fun e=>this (List.isSuffixOf_iff_suffix.1 e)
   rw[h3];rfl
 unfold YS
 rw[decide_eq_true ⟨h1,h2⟩,Bool.true_and,e2]
 congr 1
 by_cases ht:Lib.trimS s.data.toList Ur=[]
 ·rw[decide_eq_true ht]
  rw[Tg] at ht
  exact List.all_eq_true.2 fun c hc=>decide_eq_true ((Z1V c).1 (ht c hc))
 ·rw[decide_eq_false ht]
  refine Bool.eq_false_iff.2 fun h=>ht ?_
  rw[Tg]
  exact fun c hc=>(Z1V c).2 (of_decide_eq_true (List.all_eq_true.1 h c hc))
theorem Z2l (s:ByteArray) (w:World) (hs:s.size≤9223372036854775807):Calls Tryz.prog 143 #[.string s] w fun e w'=>e=.returned (.bool (YG s))∧Below w.heap.size w w':=by
 by_cases h1:1≤s.size
 ·have h1':(1:Int)≤(s.size:Int):=by omega
  by_cases h2:s.size≤8
  ·have h2':(s.size:Int)≤8:=by omega
   have hcon:=Any.strings_Trim_laid Tryz.trimF (by kernel_rfl) s ⟨#[97,98,99,100,101,102,103,104,105,106,107,108,109,110,111,112,113,114,115,116,117,118,119,120,121,122]⟩ w hs (by decide) (ascii_of_all (by decide))
   change Calls Tryz.prog 176 _ _ (fun e w'=>e=.returned (.string ⟨(Lib.trimS s.data.toList Vu).toArray⟩)∧Below w.heap.size w w') at hcon
   have HC:=Lib.hid hcon
   have hb:=Z4A h1 h2
   have he:=Z2j (Lib.trimS s.data.toList Vu)
   rw[←hb] at he
   have HE:=Lib.hid he
   generalize (⟨(Lib.trimS s.data.toList Vu).toArray⟩:ByteArray)=r at HC HE
   clear hcon hb he h1 h2
   go_enter Tryz.func143,Tryz.ntmps143
   go_wp2_with fail
   refine HC.out.mono ?_
   rintro e w5 ⟨rfl,b5⟩
   have he:=HE.out
   go_wp2_with fail
   go_ret
   exact ⟨rfl,b5⟩
  ·have h2':¬ (s.size:Int)≤8:=by omega
   have HN:Hid (YG s=false):=Jh (by unfold YG;rw[decide_eq_false (fun h=>h2 h.2)];rfl)
   clear h1 h2
   go_enter Tryz.func143,Tryz.ntmps143
   go_wp2_with fail
   go_ret
   exact ⟨by rw[HN.out];rfl,Below.refl _ _⟩
 ·have h1':¬ (1:Int)≤(s.size:Int):=by omega
  have HN:Hid (YG s=false):=Jh (by unfold YG;rw[decide_eq_false (fun h=>h1 h.1)];rfl)
  clear h1
  go_enter Tryz.func143,Tryz.ntmps143
  go_wp2_with fail
  go_ret
  exact ⟨by rw[HN.out];rfl,Below.refl _ _⟩
theorem UM (s:ByteArray) (w:World) (hs:s.size≤9223372036854775807):Calls Tryz.prog 142 #[.string s] w fun e w'=>e=.returned (.bool (YS s))∧Below w.heap.size w w':=by
 by_cases h1:1≤s.size
 ·have h1':(1:Int)≤(s.size:Int):=by omega
  by_cases h2:s.size≤64
  ·have h2':(s.size:Int)≤64:=by omega
   have hcon:=Any.strings_Trim_laid Tryz.trimF (by kernel_rfl) s ⟨#[48,49,50,51,52,53,54,55,56,57,97,98,99,100,101,102,103,104,105,106,107,108,109,110,111,112,113,114,115,116,117,118,119,120,121,122]⟩ w hs (by decide) (ascii_of_all (by decide))
   change Calls Tryz.prog 176 _ _ (fun e w'=>e=.returned (.string ⟨(Lib.trimS s.data.toList Ur).toArray⟩)∧Below w.heap.size w w') at hcon
   have HC:=Lib.hid hcon
   have hsuf:=fun w'=>Any.strings_HasSuffix Tryz.sufF s ⟨#[48]⟩ w' hs
   change ∀ w',Calls Tryz.prog 177 _ _ (fun e w''=>e=.returned (.bool (Lib.hasSuffix s.data.toList [48]))∧w''=w') at hsuf
   have HS:=Lib.hid hsuf
   have HB:=Jh (Z5z h1 h2)
   have he:=Z2j (Lib.trimS s.data.toList Ur)
   obtain ⟨tb,htb⟩:∃ tb,tb=decide (Lib.trimS s.data.toList Ur=[]):=⟨_,rfl⟩
   rw[←htb] at HB he
   have HE:=Lib.hid he
   generalize (⟨(Lib.trimS s.data.toList Ur).toArray⟩:ByteArray)=r at HC HE
   generalize Lib.hasSuffix s.data.toList [48]=sb at HB HS
   clear hcon hsuf he h1 h2 htb
   go_enter Tryz.func142,Tryz.ntmps142
   go_wp2_with fail
   refine HC.out.mono ?_
   rintro e w5 ⟨rfl,b5⟩
   have he:=HE.out
   cases tb with
   | false =>
    go_wp2_with fail
    go_ret
    exact ⟨by rw[HB.out];rfl,b5⟩
   | true =>
    go_wp2_with fail
    refine (HS.out _).mono ?_
    rintro e w6 ⟨rfl,e6⟩
    rw[e6]
    clear e6 w6
    go_wp2_with fail
    go_ret
    exact ⟨by rw[HB.out];simp,b5⟩
  ·have h2':¬ (s.size:Int)≤64:=by omega
   have HN:Hid (YS s=false):=Jh (by unfold YS;rw[decide_eq_false (fun h=>h2 h.2)];rfl)
   clear h1 h2
   go_enter Tryz.func142,Tryz.ntmps142
   go_wp2_with fail
   go_ret
   exact ⟨by rw[HN.out];rfl,Below.refl _ _⟩
 ·have h1':¬ (1:Int)≤(s.size:Int):=by omega
  have HN:Hid (YS s=false):=Jh (by unfold YS;rw[decide_eq_false (fun h=>h1 h.1)];rfl)
  clear h1
  go_enter Tryz.func142,Tryz.ntmps142
  go_wp2_with fail
  go_ret
  exact ⟨by rw[HN.out];rfl,Below.refl _ _⟩
theorem Z7X:Tryz.prog.underlying 5=some (.int .u8):=by kernel_rfl
theorem Z3l (s:ByteArray) (w:World):∃ W1 cap,(convert 9 22 (.string s)).run Tryz.prog w=.ok (.slice (some ⟨w.heap.size,0,none⟩) s.size cap) W1∧Below w.heap.size w W1∧∀ (j:Nat) c,s.data.toList[j]?=some c→W1.cell? ⟨w.heap.size,j,none⟩=some (.int .u8 c.toNat):=by
 refine ⟨_,_,Lib.run_convert_string_bytes w 9 22 5 s Tryz.underlying9 Tryz.underlying22 Z7X,⟨rfl,rfl,rfl,by rw[Lib.bytesWorld_size];omega,fun k hk=>Lib.bytesWorld_at_old w _ s k hk⟩,fun j c hc=>?_⟩
 have hj:=(List.getElem?_eq_some_iff.1 hc).1
 rw[WQ] at hj
 rw[Lib.bytesWorld_cell w _ s j hj,List.getD_eq_getElem?_getD,hc]
 rfl
theorem Z3k (s:ByteArray) (k:Nat) (c:UInt8) (hc:s.data.toList[k]?=some c):((s.data.toList.take (k+1)).all fun c=>decide (32≤c.toNat∧c.toNat≤126))=(((s.data.toList.take k).all fun c=>decide (32≤c.toNat∧c.toNat≤126)) && decide (32≤c.toNat∧c.toNat≤126)):=by
 rw[List.take_add_one,hc,Option.toList_some,List.all_append]
 simp
theorem Z09 {s:ByteArray} {k:Nat} {c:UInt8} (hc:s.data.toList[k]?=some c) (h:¬ (32≤c.toNat∧c.toNat≤126)):YD s=false:=by
 unfold YD
 have:(s.data.toList.all fun c=>decide (32≤c.toNat∧c.toNat≤126))=false:=Bool.eq_false_iff.2 fun e=>h (of_decide_eq_true (List.all_eq_true.1 e c (List.mem_of_getElem? hc)))
 rw[this,Bool.and_false]
theorem Z1O (s:ByteArray) (w:World) (hs:s.size≤9223372036854775807):Calls Tryz.prog 144 #[.string s] w fun e w'=>e=.returned (.bool (YD s))∧Below w.heap.size w w':=by
 obtain ⟨W1,cap,hcv,hb,hc⟩:=Z3l s w
 have HB:=Lib.hid hb
 have HC:=Lib.hid hc
 clear hb hc
 go_enter Tryz.func144,Tryz.ntmps144
 go_wp2_with fail
 clear hcv
 go_loopg [8] s.size (fun g kv wr=>∃ k:Nat,g=s.size - k∧kv=.int .i64 k∧k≤s.size∧wr=W1∧Hid (((s.data.toList.take k).all fun c=>decide (32≤c.toNat∧c.toNat≤126))=true))
 case atStart=>exact ⟨0,rfl,rfl,Nat.zero_le _,rfl,Jh (by rw[List.take_zero];rfl)⟩
 case round =>
  obtain ⟨k,hg,rfl,hk,rfl,HA⟩:=hrel
  have HG:=Lib.hid hg
  clear hg
  by_cases hlt:k<s.size
  ·have hk1:(k:Int)<(s.size:Int):=by omega
   obtain ⟨c,hc⟩:∃ c,s.data.toList[k]?=some c:=⟨_,List.getElem?_eq_getElem (by rw[WQ];exact hlt)⟩
   have c0:=HC.out k c hc
   have hcl:=c.toNat_lt
   by_cases h1:c.toNat<32
   ·have h1':(c.toNat:Int)<32:=by omega
    have HN:=Jh (Z09 hc (by omega))
    clear hc h1
    go_wp2_with fail
    go_ret
    exact ⟨by rw[HN.out];rfl,HB.out⟩
   ·have h1':¬ (c.toNat:Int)<32:=by omega
    by_cases h2:126<c.toNat
    ·have h2':(126:Int)<(c.toNat:Int):=by omega
     have HN:=Jh (Z09 hc (by omega))
     clear hc h1 h2
     go_wp2_with fail
     go_ret
     exact ⟨by rw[HN.out];rfl,HB.out⟩
    ·have h2':¬ (126:Int)<(c.toNat:Int):=by omega
     have HN:Hid (((s.data.toList.take (k+1)).all fun c=>decide (32≤c.toNat∧c.toNat≤126))=true):=Jh (by rw[Z3k s k c hc,HA.out,Bool.true_and];exact decide_eq_true (by omega))
     clear hc h1 h2 HA
     go_wp2_with fail
     go_roundg (s.size - (k+1))
     case measure=>rw[HG.out];omega
     case rel=>exact ⟨k+1,rfl,by simp,by omega,rfl,HN⟩
  ·obtain rfl:k=s.size:=by omega
   have hk1:¬ (s.size:Int)<(s.size:Int):=by omega
   have HV:Hid (YD s=decide (s.size≤16)):=Jh (by unfold YD;have h:=HA.out;rw[List.take_of_length_le (by rw[WQ];exact Nat.le_refl _)] at h;rw[h,Bool.and_true])
   clear hlt HA
   by_cases h16:s.size≤16
   ·have h16':(s.size:Int)≤16:=by omega
    go_wp2_with fail
    go_ret
    exact ⟨by rw[HV.out,decide_eq_true h16];try rfl,HB.out⟩
   ·have h16':¬ (s.size:Int)≤16:=by omega
    go_wp2_with fail
    go_ret
    exact ⟨by rw[HV.out,decide_eq_false h16];try rfl,HB.out⟩
end Go.Proofs.YtgmdimbiipemhaaGreatDoor
namespace Go.Proofs.YtgmdimbiipemhaaGreatDoor
def ZN:ByteArray:=⟨#[]⟩
def OpD.bare (o:OpD):OpD:=⟨o.id,o.d0,o.d1,o.d2,o.d3,o.d4,o.d5,o.d6,o.d7,o.kind,⟨0,0⟩,0,0,⟨0,0⟩,ZN,ZN,ZN,⟨0,0⟩,false,⟨0,0⟩,false⟩
def OpD.keepR (o:OpD):OpD:={ o.bare with ref:=o.ref }
def OpD.keepI (o:OpD):OpD:={ o.bare with ref:=o.ref,side:=o.side,ch:=o.ch }
def OpD.keepM (o:OpD):OpD:={ o.bare with ref:=o.ref,under:=o.under,key:=o.key }
def OpD.keepS (o:OpD):OpD:={ o.bare with ref:=o.ref,name:=o.name,value:=o.value }
def OpD.keepK (o:OpD):OpD:={ o.bare with name:=o.name,value:=o.value,fr:=o.fr,fa:=o.fa,tr:=o.tr,ta:=o.ta }
def OpD.okI (o:OpD):Bool:=(decide (o.side=2) && decide (o.ref=⟨0,0⟩) || o.may o.ref && (decide (o.side=1) || decide (o.side=2))) && (decide (o.ch=0) || decide (32≤o.ch) && decide (o.ch≤126))
def OpD.okM (o:OpD):Bool:=o.may o.ref && (decide (o.under=⟨0,0⟩) || o.may o.under) && !decide (o.under=o.ref) && YS o.key
def OpD.okS (o:OpD):Bool:=o.may o.ref && YG o.name && YD o.value
def OpD.okK (o:OpD):Bool:=o.may o.fr && o.may o.tr && YG o.name && YD o.value
def OpD.kindOk (o:OpD):Bool :=
 if o.kind=1 then o.okI && decide (o.keepI=o) else
 if o.kind=2 then o.may o.ref && decide (o.keepR=o) else
 if o.kind=3 then o.okM && decide (o.keepM=o) else
 if o.kind=4 then o.okS && decide (o.keepS=o) else
 if o.kind=5 then o.okK && decide (o.keepK=o) else false
def VI (ds:List Int):Int:=Lib.minOf ds
def OpD.right (o:OpD):Bool:=ZS o.id && (!decide (VI o.deps<0) && (!decide (o.id.n≤Wx o.deps) && o.kindOk))
theorem OpD.right_no1 {o:OpD} (h:ZS o.id=false):o.right=false:=by unfold OpD.right;rw[h];rfl
theorem OpD.right_no2 {o:OpD} (h:ZS o.id=true) (h2:VI o.deps<0):o.right=false:=by unfold OpD.right;rw[h,decide_eq_true h2];rfl
theorem OpD.right_no3 {o:OpD} (h:ZS o.id=true) (h2:¬ VI o.deps<0) (h3:o.id.n≤Wx o.deps):o.right=false:=by unfold OpD.right;rw[h,decide_eq_false h2,decide_eq_true h3];rfl
theorem OpD.right_yes {o:OpD} (h:ZS o.id=true) (h2:¬ VI o.deps<0) (h3:¬ o.id.n≤Wx o.deps):o.right=o.kindOk:=by unfold OpD.right;rw[h,decide_eq_false h2,decide_eq_false h3];rfl
section
variable {α:Type} [DecidableEq α]
def Zc (x:α):List α→Nat
 | []=>0
 | y :: l=>if y=x then Zc x l+1 else 0
theorem XC (x:α):∀ l:List α,Zc x l≤l.length
 | []=>Nat.le_refl _
 | y :: l=>by
  unfold Zc
  split
  ·simp;exact XC x l
  ·omega
theorem Z0a (x:α):∀ l:List α,l.take (Zc x l)=List.replicate (Zc x l) x
 | []=>rfl
 | y :: l=>by
  unfold Zc
  split
  ·rename_i h
   rw[List.take_succ_cons,Z0a x l,List.replicate_succ,h]
  ·simp
theorem XX (x:α):∀ l:List α,(l.drop (Zc x l)).head?≠some x
 | []=>by simp[Zc]
 | y :: l=>by
  unfold Zc
  split
  ·rw[List.drop_succ_cons];exact XX x l
  ·rename_i h;simp[h]
theorem Z08 (x:α) (k:Nat) {l:List α} (h:l.head?≠some x):Zc x (List.replicate k x++l)=k:=by
 induction k with
 | zero =>
  cases l with
  | nil=>rfl
  | cons y l=>simp only[List.replicate_zero,List.nil_append,Zc];rw[if_neg (fun e=>h (by simp[e]))]
 | succ k ih=>rw[List.replicate_succ,List.cons_append,Zc,if_pos rfl,ih]
theorem Z01 (x:α) (l:List α):l=List.replicate (Zc x l) x++l.drop (Zc x l):=by
 rw[←Z0a,List.take_append_drop]
end
theorem XV {a b c:List UInt8}:a++b <+: c↔a <+: c∧b <+: c.drop a.length:=by
 constructor
 ·rintro ⟨t,rfl⟩
  refine ⟨⟨b++t,by simp⟩,⟨t,?_⟩⟩
  rw[List.append_assoc,List.drop_left]
 ·rintro ⟨⟨t,rfl⟩,h⟩
  rw[List.drop_left] at h
  obtain ⟨s,rfl⟩:=h
  exact ⟨s,by simp⟩
def Zd:List Int→List UInt8
 | []=>[]
 | x :: l=>Z5 (Zc x l+1)++Z5 (Yh x)++Zd (l.drop (Zc x l))
termination_by l=>l.length
decreasing_by simp;omega
theorem Z4T (x:Int) (k:Nat) {l:List Int} (h:l.head?≠some x):Zd (List.replicate (k+1) x++l)=Z5 (k+1)++Z5 (Yh x)++Zd l:=by
 rw[List.replicate_succ,List.cons_append,Zd,Z08 x k h]
 congr 2
 rw[List.drop_append_of_le_length (by simp),List.drop_eq_nil_of_le (by simp),List.nil_append]
noncomputable def YT (n:Nat) (prev:Option Int) (b:List UInt8):Option (List Int × Nat) :=
 if hn:n=0 then some ([],0) else
  match ZD b with
  | none=>none
  | some k=>match ZD (b.drop (Z5 k).length) with
   | none=>none
   | some v=>if hk:k=0∨n<k∨prev=some (YN v) then none else
    (YT (n - k) (some (YN v)) (b.drop ((Z5 k).length+(Z5 v).length))).map fun p=>(List.replicate k (YN v)++p.1,(Z5 k).length+(Z5 v).length+p.2)
termination_by n
decreasing_by omega
theorem Z14 (prev:Option Int) (b:List UInt8):YT 0 prev b=some ([],0):=by rw[YT,dif_pos rfl]
theorem Z1e {n:Nat} {prev:Option Int} {b:List UInt8} (hn:n≠0) (h:ZD b=none):YT n prev b=none:=by rw[YT,dif_neg hn,h]
theorem Z1z {n:Nat} {prev:Option Int} {b:List UInt8} {k:Nat} (hn:n≠0) (h:ZD b=some k) (h2:ZD (b.drop (Z5 k).length)=none):YT n prev b=none:=by rw[YT,dif_neg hn,h];simp only[h2]
theorem Z1l {n:Nat} {prev:Option Int} {b:List UInt8} {k v:Nat} (hn:n≠0) (h:ZD b=some k) (h2:ZD (b.drop (Z5 k).length)=some v) (h3:k=0∨n<k∨prev=some (YN v)):YT n prev b=none:=by
 rw[YT,dif_neg hn,h];simp only[h2];rw[dif_pos h3]
theorem SN {n:Nat} {prev:Option Int} {b:List UInt8} {k v:Nat} (h:ZD b=some k) (h2:ZD (b.drop (Z5 k).length)=some v) (hk0:k≠0) (hkn:k≤n) (hp:prev≠some (YN v)) :
  YT n prev b=(YT (n - k) (some (YN v)) (b.drop ((Z5 k).length+(Z5 v).length))).map fun p=>(List.replicate k (YN v)++p.1,(Z5 k).length+(Z5 v).length+p.2):=by
 rw[YT,dif_neg (by omega),h];simp only[h2];rw[dif_neg (by rintro (h|h|h);exact hk0 h;omega;exact hp h)]
theorem U4:∀ (n:Nat),n<18446744073709551616→∀ (prev:Option Int) (b:List UInt8) (l:List Int) (u:Nat),YT n prev b=some (l,u)↔l.length=n∧(prev≠none→l.head?≠prev)∧(∀ x∈l,Yh x<18446744073709551616)∧Zd l <+: b∧u=(Zd l).length∨(n=0∧l=[]∧u=0):=by
 intro n
 induction n using Nat.strongRecOn with
 | ind n ih =>
  intro hnn prev b l u
  by_cases hn:n=0
  ·subst hn
   rw[Z14]
   constructor
   ·intro h;cases h;exact .inr ⟨rfl,rfl,rfl⟩
   ·rintro (⟨h,_,_,_,rfl⟩|⟨_,rfl,rfl⟩)
    ·rw[List.length_eq_zero_iff.1 h];simp[Zd]
    ·rfl
  ·constructor
   ·intro h
    left
    cases hk:ZD b with
    | none=>rw[Z1e hn hk] at h;cases h
    | some k =>
     cases hv:ZD (b.drop (Z5 k).length) with
     | none=>rw[Z1z hn hk hv] at h;cases h
     | some v =>
      by_cases h3:k=0∨n<k∨prev=some (YN v)
      ·rw[Z1l hn hk hv h3] at h;cases h
      ·have h4:k≠0∧k≤n∧prev≠some (YN v):=⟨fun e=>h3 (.inl e),by have:¬ n<k:=fun e=>h3 (.inr (.inl e));omega,fun e=>h3 (.inr (.inr e))⟩
       rw[SN hk hv h4.1 h4.2.1 h4.2.2] at h
       obtain ⟨⟨r,s⟩,hr,he⟩:=Option.map_eq_some_iff.1 h
       cases he
       have tk:=ZE.1 hk
       have tv:=ZE.1 hv
       obtain ⟨j,rfl⟩:∃ j,k=j+1:=⟨k - 1,by omega⟩
       have key:r.length=n - (j+1)∧r.head?≠some (YN v)∧(∀ x∈r,Yh x<18446744073709551616)∧Zd r <+: b.drop ((Z5 (j+1)).length+(Z5 v).length)∧s=(Zd r).length:=by
        rcases (ih (n - (j+1)) (by omega) (by omega) _ _ _ _).1 hr with ⟨a1,a2,a3,a4,a5⟩|⟨a1,rfl,rfl⟩
        ·exact ⟨a1,a2 (by simp),a3,a4,a5⟩
        ·exact ⟨by simp[a1],by simp,by simp,by simp[Zd],by simp[Zd]⟩
       obtain ⟨a1,a2,a3,a4,a5⟩:=key
       have e:=Z4T (YN v) j a2
       rw[Z0w] at e
       refine ⟨by simp;omega,fun _=>?_,fun x hx=>?_,?_,?_⟩
       ·rw[List.replicate_succ];simpa using fun e=>h4.2.2 e.symm
       ·rcases List.mem_append.1 hx with hx|hx
        ·rw[(List.mem_replicate.1 hx).2,Z0w];exact tv.1
        ·exact a3 x hx
       ·rw[e,XV,XV,List.length_append]
        exact ⟨⟨tk.2,tv.2⟩,a4⟩
       ·rw[e,List.length_append,List.length_append,a5]
   ·rintro (⟨h1,h2,h3,h4,h5⟩|⟨h,_⟩)
    ·cases l with
     | nil=>simp at h1;omega
     | cons x l =>
      have hl:=XC x l
      rw[Zd,XV,XV] at h4
      rw[List.length_cons] at h1
      have tk:ZD b=some (Zc x l+1):=ZE.2 ⟨by omega,h4.1.1⟩
      have tv:ZD (b.drop (Z5 (Zc x l+1)).length)=some (Yh x):=ZE.2 ⟨h3 x (by simp),h4.1.2⟩
      rw[SN tk tv (by omega) (by omega) (by
       rw[Z0t]
       intro e
       exact h2 (by rw[e];simp) (by rw[e];rfl)),Z0t]
      have hr:YT (n - (Zc x l+1)) (some x) (b.drop ((Z5 (Zc x l+1)).length+(Z5 (Yh x)).length))=some (l.drop (Zc x l),(Zd (l.drop (Zc x l))).length):=by
       refine (ih (n - (Zc x l+1)) (by omega) (by omega) _ _ _ _).2 (.inl ⟨by simp;omega,fun _=>XX x l,fun y hy=>h3 y (List.mem_cons_of_mem _ (List.mem_of_mem_drop hy)),?_,rfl⟩)
       rw[←List.length_append];exact h4.2
      rw[hr,Option.map_some,h5]
      congr 2
      ·rw[List.replicate_succ,List.cons_append]
       congr 1
       exact (Z01 x l).symm
      ·rw[Zd,List.length_append,List.length_append]
    ·exact absurd h hn
def Ya (n:Int):Int:=(n+9223372036854775808) % 18446744073709551616 - 9223372036854775808
theorem Z3h (n:Int):-9223372036854775808≤Ya n∧Ya n≤9223372036854775807:=by unfold Ya;omega
theorem Z6j {n:Int} (h1:-9223372036854775808≤n) (h2:n≤9223372036854775807):Ya n=n:=by unfold Ya;omega
def YQ (p:Int):List Int→List Int
 | []=>[]
 | x :: l=>Ya (x - p) :: YQ x l
def ZM:List Int→List Int
 | []=>[]
 | x :: l=>x :: YQ x l
def WD (p:Int):List Int→List Int
 | []=>[]
 | x :: l=>Ya (x+p) :: WD (Ya (x+p)) l
def Yf:List Int→List Int
 | []=>[]
 | x :: l=>x :: WD x l
theorem RM:∀ (l:List Int) (p:Int),(∀ x∈l,-9223372036854775808≤x∧x≤9223372036854775807)→WD p (YQ p l)=l
 | [],_,_=>rfl
 | x :: l,p,h=>by
  have hx:=h x (by simp)
  have e:Ya (Ya (x - p)+p)=x:=by unfold Ya;omega
  rw[YQ,WD,e,RM l x (fun y hy=>h y (by simp[hy]))]
theorem Z4m {l:List Int} (h:∀ x∈l,-9223372036854775808≤x∧x≤9223372036854775807):Yf (ZM l)=l:=by
 cases l with
 | nil=>rfl
 | cons x l=>rw[ZM,Yf,RM l x (fun y hy=>h y (by simp[hy]))]
theorem Q3:∀ (l:List Int) (p:Int),(∀ x∈l,-9223372036854775808≤x∧x≤9223372036854775807)→YQ p (WD p l)=l
 | [],_,_=>rfl
 | x :: l,p,h=>by
  have hx:=h x (by simp)
  have e:Ya (Ya (x+p) - p)=x:=by unfold Ya;omega
  rw[WD,YQ,e,Q3 l _ (fun y hy=>h y (by simp[hy]))]
theorem Z4c {l:List Int} (h:∀ x∈l,-9223372036854775808≤x∧x≤9223372036854775807):ZM (Yf l)=l:=by
 cases l with
 | nil=>rfl
 | cons x l=>rw[Yf,ZM,Q3 l x (fun y hy=>h y (by simp[hy]))]
theorem VS (v:Bool) {l:List Bool} (h:l≠[]):2*(l.drop (Zc v l)).length+(if (l.drop (Zc v l)).head?=some (!v) then 0 else 1)<2*l.length+(if l.head?=some v then 0 else 1):=by
 cases l with
 | nil=>exact absurd rfl h
 | cons x l =>
  by_cases hx:x=v
  ·have e:Zc v (x :: l)=Zc v l+1:=by rw[Zc,if_pos hx]
   have:=XC v l
   rw[e,List.drop_succ_cons,List.length_drop,List.length_cons]
   split <;> omega
  ·have e:Zc v (x :: l)=0:=by rw[Zc,if_neg hx]
   have hx2:x=!v:=by cases x <;> cases v <;> simp_all
   rw[e,List.drop_zero,List.head?_cons,if_pos (by rw[hx2]),if_neg (by simpa using hx)]
   omega
def ZT (v:Bool) (l:List Bool):List UInt8:=if h:l=[] then [] else Z5 (Zc v l)++ZT (!v) (l.drop (Zc v l))
termination_by 2*l.length+(if l.head?=some v then 0 else 1)
decreasing_by exact VS v h
def Yx (l:List Bool):List UInt8:=ZT false l
theorem Xo (v:Bool):ZT v []=[]:=by rw[ZT,dif_pos rfl]
theorem X3 {v:Bool} {l:List Bool} (h:l≠[]):ZT v l=Z5 (Zc v l)++ZT (!v) (l.drop (Zc v l)):=by rw[ZT,dif_neg h]
noncomputable def Xm (n:Nat) (v first:Bool) (b:List UInt8):Option (List Bool × Nat) :=
 if hn:n=0 then some ([],0) else
  match ZD b with
  | none=>none
  | some k=>if hk:(k=0∧first=false)∨n<k then none else
   (Xm (n - k) (!v) false (b.drop (Z5 k).length)).map fun p=>(List.replicate k v++p.1,(Z5 k).length+p.2)
termination_by 2*n+(if first then 1 else 0)
decreasing_by
 have h1:¬ n<k:=fun e=>hk (.inr e)
 have h2:¬ (k=0∧first=false):=fun e=>hk (.inl e)
 cases first
 ·have:k≠0:=fun e=>h2 ⟨e,rfl⟩
  simp only[Bool.false_eq_true,if_false]
  omega
 ·simp only[Bool.false_eq_true,if_false,if_true]
  omega
theorem Z1T (v first:Bool) (b:List UInt8):Xm 0 v first b=some ([],0):=by rw[Xm,dif_pos rfl]
theorem Z1A {n:Nat} {v first:Bool} {b:List UInt8} (hn:n≠0) (h:ZD b=none):Xm n v first b=none:=by rw[Xm,dif_neg hn,h]
theorem Z1L {n:Nat} {v first:Bool} {b:List UInt8} {k:Nat} (hn:n≠0) (h:ZD b=some k) (h3:(k=0∧first=false)∨n<k):Xm n v first b=none:=by
 rw[Xm,dif_neg hn,h];simp only[];rw[dif_pos h3]
theorem Z1X {n:Nat} {v first:Bool} {b:List UInt8} {k:Nat} (hn:n≠0) (h:ZD b=some k) (h3:¬ ((k=0∧first=false)∨n<k)) :
  Xm n v first b=(Xm (n - k) (!v) false (b.drop (Z5 k).length)).map fun p=>(List.replicate k v++p.1,(Z5 k).length+p.2):=by
 rw[Xm,dif_neg hn,h];simp only[];rw[dif_neg h3]
theorem Z3B (v:Bool) (k:Nat) {l:List Bool} (h:l.head?≠some v) (hl:0<k+l.length):ZT v (List.replicate k v++l)=Z5 k++ZT (!v) l:=by
 have hne:List.replicate k v++l≠[]:=by
  intro e
  have:=congrArg List.length e
  rw[List.length_append,List.length_replicate,List.length_nil] at this
  omega
 rw[X3 hne,Z08 v k h]
 congr 2
 rw[List.drop_append_of_le_length (by simp),List.drop_eq_nil_of_le (by simp),List.nil_append]
theorem Tc {v:Bool} {l:List Bool} (h:l.head?≠some v):l=[]∨l.head?=some (!v):=by
 cases l with
 | nil=>exact .inl rfl
 | cons x l=>right;cases x <;> cases v <;> simp_all
theorem Qi:∀ (n:Nat),n<18446744073709551616→∀ (v first:Bool) (b:List UInt8) (l:List Bool) (u:Nat),Xm n v first b=some (l,u)↔l.length=n∧(first=false→l=[]∨l.head?=some v)∧ZT v l <+: b∧u=(ZT v l).length:=by
 have main:∀ (m n:Nat) (v first:Bool),2*n+(if first=true then 1 else 0)=m→n<18446744073709551616→∀ (b:List UInt8) (l:List Bool) (u:Nat),Xm n v first b=some (l,u)↔l.length=n∧(first=false→l=[]∨l.head?=some v)∧ZT v l <+: b∧u=(ZT v l).length:=by
  intro m
  induction m using Nat.strongRecOn with
  | ind m ih =>
   intro n v first hm hnn b l u
   by_cases hn:n=0
   ·subst hn
    rw[Z1T]
    constructor
    ·intro h;cases h;exact ⟨rfl,fun _=>.inl rfl,by rw[Xo];exact List.nil_prefix,by rw[Xo];rfl⟩
    ·rintro ⟨h,_,_,rfl⟩
     rw[List.length_eq_zero_iff.1 h,Xo];rfl
   ·cases hk:ZD b with
    | none =>
     rw[Z1A hn hk]
     constructor
     ·intro h;cases h
     ·rintro ⟨h1,_,h3,_⟩
      have hl:l≠[]:=by intro e;rw[e] at h1;exact hn h1.symm
      rw[X3 hl,XV] at h3
      have hle:=XC v l
      exact absurd ⟨by omega,h3.1⟩ (VO.1 hk (Zc v l))
    | some k =>
     have tk:=ZE.1 hk
     by_cases h3:(k=0∧first=false)∨n<k
     ·rw[Z1L hn hk h3]
      constructor
      ·intro h;cases h
      ·rintro ⟨h1,h2,h4,_⟩
       have hl:l≠[]:=by intro e;rw[e] at h1;exact hn h1.symm
       rw[X3 hl,XV] at h4
       have hle:=XC v l
       have e:=tk.uniq ⟨by omega,h4.1⟩
       rcases h3 with ⟨e0,ef⟩|h3
       ·have:=(h2 ef).resolve_left hl
        cases l with
        | nil=>exact absurd rfl hl
        | cons x l =>
         simp only[List.head?_cons,Option.some.injEq] at this
         rw[Zc,if_pos this] at e
         omega
       ·omega
     ·rw[Z1X hn hk h3]
      have hlt:2*(n - k)+(if (false=true) then 1 else 0)<m:=by
       have h1:¬ n<k:=fun e=>h3 (.inr e)
       have h2:¬ (k=0∧first=false):=fun e=>h3 (.inl e)
       rw[←hm]
       cases first
       ·have:k≠0:=fun e=>h2 ⟨e,rfl⟩
        simp
        omega
       ·simp
        omega
      have ih2:=ih _ hlt (n - k) (!v) false rfl (by omega) (b.drop (Z5 k).length)
      constructor
      ·intro h
       obtain ⟨⟨r,s⟩,hr,he⟩:=Option.map_eq_some_iff.1 h
       cases he
       obtain ⟨a1,a2,a3,a4⟩:=(ih2 r s).1 hr
       have hh:r.head?≠some v:=by
        rcases a2 rfl with rfl|a2
        ·simp
        ·rw[a2];cases v <;> simp
       have hkn:k≤n:=by have:¬ n<k:=fun e=>h3 (.inr e);omega
       have e:=Z3B v k hh (by omega)
       refine ⟨by simp;omega,fun hf=>?_,?_,?_⟩
       ·right
        have hk0:k≠0:=fun e=>h3 (.inl ⟨e,hf⟩)
        obtain ⟨j,rfl⟩:∃ j,k=j+1:=⟨k - 1,by omega⟩
        rw[List.replicate_succ];rfl
       ·rw[e,XV];exact ⟨tk.2,a3⟩
       ·rw[e,List.length_append,a4]
      ·rintro ⟨h1,h2,h4,h5⟩
       have hl:l≠[]:=by intro e;rw[e] at h1;exact hn h1.symm
       rw[X3 hl,XV] at h4
       have hle:=XC v l
       have e:=tk.uniq ⟨by omega,h4.1⟩
       subst e
       have hr:Xm (n - Zc v l) (!v) false (b.drop (Z5 (Zc v l)).length)=some (l.drop (Zc v l),(ZT (!v) (l.drop (Zc v l))).length) :=
        (ih2 _ _).2 ⟨by simp;omega,fun _=>Tc (XX v l),h4.2,rfl⟩
       rw[hr,Option.map_some,h5]
       congr 2
       ·exact (Z01 v l).symm
       ·rw[X3 hl,List.length_append]
 intro n hn v first b l u
 exact main _ n v first rfl hn b l u
end Go.Proofs.YtgmdimbiipemhaaGreatDoor
namespace Go.Proofs.YtgmdimbiipemhaaGreatDoor
open Go.RowKit Go.Deep
section
variable {P:Program} {w:World} {α:Type} {ea:α→List Value} {k:Nat} {e:TypeId} {base:Nat} {v vx:Value} {l ys:List α}
theorem QC (t ty:TypeId) (i:TypeInfo) (ht:P.underlying t=some (.slice e)) (hi:P.info? e=some i) (b:Option Addr) (n cap c:Nat) (hc:n≤cap) :
  (Builtin.append_ #[t,t] ty #[.slice b n cap,.slice none 0 c]).run P w=.ok (.slice b n cap) w:=by
 cases b <;> simp[Builtin.append_,run_underlying ht,sizeOf,typeInfo,hi,Builtin.lenOf,Builtin.firstCells,loadCells,loadCellsFrom,storeCells,hc]
theorem Yd (t ty:TypeId) (i:TypeInfo) (z:Value) (bytes:Nat) (ht:P.underlying t=some (.slice e)) (hi:P.info? e=some i) (hz:i.zero=some z)
  (hsize:i.size=k) (hby:i.bytes=bytes) (hzs:z.cells.size=k) (hk0:0<k) (hk:∀ x,(ea x).length=k) (h1:∀ x,∀ u∈ea x,u.oneCell'=true)
  (hown:Own ea k e base w v l) (hx:Z0 ea k w vx ys) (h63:l.length+ys.length≤maxLen) (hbytes:(l.length+ys.length)*bytes≤140737488355328) (hbase:base≤w.heap.size) :
  ∃ v' w',(Builtin.append_ #[t,t] ty #[v,vx]).run P w=.ok v' w'∧Own ea k e base w' v' (l++ys)∧Ext (fun b=>v.ownBlock=some b) w w':=by
 obtain ⟨a,cap,rfl,hcap,hmax,hcs⟩:=hx
 cases a with
 | none =>
  have hys:ys=[]:=Classical.byContradiction fun hn=>by obtain ⟨b,o,e,_⟩:=hcs hn;cases e
  subst hys
  obtain ⟨sa,sc,rfl,hsc,_⟩:=hown.slice hk
  refine ⟨_,w,QC t ty i ht hi sa l.length sc cap hsc,by rw[List.append_nil];exact hown,Ext.refl _ _⟩
 | some ad =>
  have hnews:∀ j u,(ys.flatMap ea)[j]?=some u→w.cell? (ad.add j)=some u:=fun j u hj=>by
   have hne:ys≠[]:=fun e=>by rw[e] at hj;simp at hj
   obtain ⟨b,o,e,h2⟩:=hcs hne
   cases e
   have hjl:=(List.getElem?_eq_some_iff.1 hj).1
   rw[Zw hk] at hjl
   have hdm:j / k*k+j % k=j:=by rw[Nat.mul_comm];exact Nat.div_add_mod j k
   have hq:j / k<ys.length:=Nat.div_lt_of_lt_mul (by rw[Nat.mul_comm];exact hjl)
   obtain ⟨x,hx⟩:∃ x,ys[j / k]?=some x:=⟨_,List.getElem?_eq_getElem hq⟩
   obtain ⟨u',hu'⟩:∃ u',(ea x)[j % k]?=some u':=⟨_,List.getElem?_eq_getElem (by rw[hk];exact Nat.mod_lt _ hk0)⟩
   have h3:=getElem?_flatMap_k hk ys (j / k) x hx (j % k) u' hu'
   rw[hdm,hj] at h3
   cases h3
   have h4:=h2 (j / k) x hx (j % k) u hu'
   rw[Nat.add_assoc,hdm] at h4
   rw[show (Addr.add ⟨b,o,none⟩ j)=⟨b,o+j,none⟩ from by unfold Addr.add;split <;> simp_all]
   exact h4
  obtain ⟨v',w',h2,h3,h4,_⟩:=run_append_own (P:=P) w base t ty e i z k bytes ht hi hz hsize hby hzs hk0 v l.length (l.flatMap ea) hown ad ys.length cap (ys.flatMap ea) (Zw hk ys) hnews
   (fun u hu=>by obtain ⟨x,_,hx⟩:=List.mem_flatMap.1 hu;exact h1 x u hx) h63 hbytes hbase
  refine ⟨v',w',h2,?_,Ext.of_grown h4⟩
  unfold Own
  rw[List.length_append,List.flatMap_append]
  exact h3
end
theorem Own.below1 {α:Type} {ea:α→List Value} {k:Nat} {e:TypeId} {base:Nat} {w w':World} {v:Value} {l:List α} (h:Own ea k e base w v l) (hb:Below w.heap.size w w'):Own ea k e base w' v l :=
 h.ext (Ext.of_below (S:=fun _=>False) hb) (fun _ _=>id)
theorem ZL {base:Nat} {w0 w:World} {v vx:Value} {out ys:List UInt8} (ho:Own u8c 1 5 base w v out) (hb:Below base w0 w) (hx:Z0 u8c 1 w vx ys) (hbase:base≤w.heap.size) (hl:out.length+ys.length≤140737488355328) :
  ∃ (s:Sl) (w':World),(Builtin.append_ #[22,22] 22 #[v,vx]).run Tryz.prog w=.ok (.slice s.a s.n s.cap) w'∧Own u8c 1 5 base w' (.slice s.a s.n s.cap) (out++ys)∧Below base w0 w'∧base≤w'.heap.size:=by
 obtain ⟨i0,hi,hz0,hz1,hz2⟩:=info_parts YA
 obtain ⟨v',w',hr,ho2,hx2⟩:=Yd (P:=Tryz.prog) 22 22 i0 _ 1 Tryz.underlying22 hi hz0 hz1 hz2 rfl (by omega) Z6 XU ho hx (by unfold maxLen;omega) (by omega) hbase
 obtain ⟨s,rfl⟩:=ho2.sl
 exact ⟨s,w',hr,ho2,Ext.new hb hx2 (fun i hi _ e=>by have:=(ho.blk i e).1;omega) hbase,Nat.le_trans hbase hx2.size⟩
section
variable {α:Type} [DecidableEq α]
theorem Z2r {x:α}:∀ {l:List α} {m:Nat},m<Zc x l→l[m]?=some x
 | [],m,h=>by simp[Zc] at h
 | y :: l,m,h=>by
  unfold Zc at h
  split at h
  ·rename_i e
   cases m with
   | zero=>simp[e]
   | succ m=>rw[List.getElem?_cons_succ];exact Z2r (by omega)
  ·omega
theorem Z4E (x:α) (l:List α):l[Zc x l]?≠some x:=by
 have:=XX x l
 rwa [List.head?_drop] at this
theorem Rl {x y:α} {l:List α} {i k:Nat} (hik:i≤k) (hc:k - i≤Zc x (l.drop i)) (hk:l[k]?=some y):(y=x→k+1 - i≤Zc x (l.drop i))∧(y≠x→k - i=Zc x (l.drop i)):=by
 have hd:(l.drop i)[k - i]?=some y:=by rw[List.getElem?_drop,show i+(k - i)=k by omega];exact hk
 constructor
 ·rintro rfl
  have:k - i≠Zc y (l.drop i):=fun e=>Z4E y (l.drop i) (by rw[←e];exact hd)
  omega
 ·intro hne
  rcases Nat.lt_or_ge (k - i) (Zc x (l.drop i)) with h|h
  ·have:=Z2r h
   rw[hd] at this
   exact absurd (Option.some.inj this) hne
  ·omega
theorem Sf {x:α} {l:List α} {i:Nat} (hi:i≤l.length) (hc:l.length - i≤Zc x (l.drop i)):l.length - i=Zc x (l.drop i):=by
 have:=XC x (l.drop i)
 rw[List.length_drop] at this
 omega
end
theorem Z4k:∀ (m:Nat) (v:Bool) (l:List Bool),2*l.length+(if l.head?=some v then 0 else 1)=m→l.length<18446744073709551616→(ZT v l).length≤10*l.length+(if l.head?=some v then 0 else 10):=by
 intro m
 induction m using Nat.strongRecOn with
 | ind m ih =>
  intro v l hm hl
  by_cases h:l=[]
  ·subst h;rw[Xo];simp
  ·rw[X3 h,List.length_append]
   have h1:=VS v h
   have hle:=XC v l
   have h2:=ih _ (by rw[←hm];exact h1) (!v) (l.drop (Zc v l)) rfl (by rw[List.length_drop];omega)
   have h3:(Z5 (Zc v l)).length≤10:=(Wj _ 10 (by omega)).2 (by omega)
   rw[List.length_drop] at h2
   rw[List.length_drop] at h1
   rcases Tc (XX v l) with h4|h4
   ·rw[h4,Xo]
    simp only[List.length_nil]
    have:0<l.length:=List.length_pos_iff.2 h
    omega
   ·rw[if_pos h4] at h2
    by_cases h5:l.head?=some v
    ·have h6:0<Zc v l:=by
      cases l with
      | nil=>exact absurd rfl h
      | cons x l =>
       rw[List.head?_cons] at h5
       rw[Zc,if_pos (Option.some.inj h5)]
       omega
     omega
    ·rw[if_neg h5];omega
theorem WA {l:List Bool} (hl:l.length<18446744073709551616):(Yx l).length≤10*l.length+10:=by
 have:=Z4k _ false l rfl hl
 unfold Yx
 split at this <;> omega
theorem Um:∀ (n:Nat) (l:List Int),l.length=n→n<18446744073709551616→(∀ x∈l,Yh x<18446744073709551616)→(Zd l).length≤20*l.length:=by
 intro n
 induction n using Nat.strongRecOn with
 | ind n ih =>
  intro l hn hl hz
  cases l with
  | nil=>simp[Zd]
  | cons x l =>
   have hle:=XC x l
   rw[List.length_cons] at hn
   rw[Zd,List.length_append,List.length_append,List.length_cons]
   have h1:(Z5 (Zc x l+1)).length≤10:=(Wj _ 10 (by omega)).2 (by omega)
   have h2:(Z5 (Yh x)).length≤10:=(Wj _ 10 (by omega)).2 (by have:=hz x (by simp);omega)
   have h3:=ih (l.drop (Zc x l)).length (by rw[List.length_drop];omega) _ rfl (by rw[List.length_drop];omega) (fun y hy=>hz y (List.mem_cons_of_mem _ (List.mem_of_mem_drop hy)))
   rw[List.length_drop] at h3
   omega
end Go.Proofs.YtgmdimbiipemhaaGreatDoor
namespace Go.Proofs.YtgmdimbiipemhaaGreatDoor
open Go.RowKit
theorem UX (n:Int):wrap64 n=Ya n:=by unfold wrap64 Ya;rfl
theorem Yc (n:Int):IntKind.u64.wrap n=n % 18446744073709551616:=by
 unfold IntKind.wrap
 simp[IntKind.bits,IntKind.signed]
theorem Z4w (n:Nat) (h:n<256):bits .or .u8 (n:Int) 128=((n % 128+128:Nat):Int):=by
 have key:∀ m:Fin 256,bits .or .u8 ((m.val:Nat):Int) 128=((m.val % 128+128:Nat):Int):=by decide +kernel
 exact key ⟨n,h⟩
theorem TK (n:Nat) (h:n<256):bits .and .u8 (n:Int) 127=((n % 128:Nat):Int):=by
 have key:∀ m:Fin 256,bits .and .u8 ((m.val:Nat):Int) 127=((m.val % 128:Nat):Int):=by decide +kernel
 exact key ⟨n,h⟩
theorem YI (k n:Nat):BitVec.ofInt k (n:Int)=BitVec.ofNat k n:=by
 apply BitVec.eq_of_toInt_eq
 simp[BitVec.toInt_ofInt,BitVec.toInt_ofNat]
theorem So (op:BinOp) (a b c:Nat) (ha:a<18446744073709551616) (hb:b<18446744073709551616) (hc:c<18446744073709551616)
  (h:(match op with|.and=>a &&& b|.or=>a ||| b|.xor=>a ^^^ b|_=>c)=c) (ho:op=.and∨op=.or∨op=.xor):bits op .u64 (a:Int) (b:Int)=(c:Int):=by
 unfold bits
 dsimp only
 rw[Yc]
 have e64:IntKind.u64.bits=64:=rfl
 rcases ho with rfl|rfl|rfl
 ·simp only at h ⊢
  rw[YI,YI,e64,BitVec.toNat_and,BitVec.toNat_ofNat,BitVec.toNat_ofNat,Nat.mod_eq_of_lt (by omega),Nat.mod_eq_of_lt (by omega),h]
  omega
 ·simp only at h ⊢
  rw[YI,YI,e64,BitVec.toNat_or,BitVec.toNat_ofNat,BitVec.toNat_ofNat,Nat.mod_eq_of_lt (by omega),Nat.mod_eq_of_lt (by omega),h]
  omega
 ·simp only at h ⊢
  rw[YI,YI,e64,BitVec.toNat_xor,BitVec.toNat_ofNat,BitVec.toNat_ofNat,Nat.mod_eq_of_lt (by omega),Nat.mod_eq_of_lt (by omega),h]
  omega
theorem Z2e (n:Nat) (h:n<18446744073709551616):bits .and .u64 (n:Int) 1=((n % 2:Nat):Int) :=
 So .and n 1 (n % 2) h (by omega) (by omega) (Nat.and_one_is_mod n) (.inl rfl)
theorem Z23 (a x i:Nat) (ha:a<2 ^ i) (h:a+x*2 ^ i<18446744073709551616):bits .or .u64 (a:Int) ((x*2 ^ i:Nat):Int)=((a+x*2 ^ i:Nat):Int):=by
 refine So .or a (x*2 ^ i) _ (by omega) (by omega) h ?_ (.inr (.inl rfl))
 show a ||| x*2 ^ i=_
 rw[Nat.or_comm,Nat.mul_comm x,←Nat.two_pow_add_eq_or_of_lt ha,Nat.add_comm]
theorem Z2a (a:Nat) (h:a<18446744073709551616):a ^^^ 18446744073709551615=18446744073709551615 - a:=by
 have:=congrArg BitVec.toNat (BitVec.xor_allOnes (x:=BitVec.ofNat 64 a))
 rw[BitVec.toNat_xor,BitVec.toNat_not,BitVec.toNat_ofNat,BitVec.toNat_allOnes,Nat.mod_eq_of_lt (by omega)] at this
 simpa using this
theorem Z6S {n:Int} (h1:-9223372036854775808≤n) (h2:n≤9223372036854775807):bits .xor .u64 (IntKind.u64.wrap (IntKind.u64.wrap n*2)) (IntKind.u64.wrap (n / 9223372036854775808))=(Yh n:Int):=by
 rw[Yc,Yc,Yc]
 by_cases h:0≤n
 ·have e1:n % 18446744073709551616*2 % 18446744073709551616=((2*n).toNat:Int):=by omega
  have e2:n / 9223372036854775808 % 18446744073709551616=((0:Nat):Int):=by omega
  rw[e1,e2]
  unfold Yh
  rw[if_pos h]
  exact So .xor _ 0 _ (by omega) (by omega) (by omega) (Nat.xor_zero _) (.inr (.inr rfl))
 ·have e1:n % 18446744073709551616*2 % 18446744073709551616=((18446744073709551616+2*n).toNat:Int):=by omega
  have e2:n / 9223372036854775808 % 18446744073709551616=((18446744073709551615:Nat):Int):=by omega
  rw[e1,e2]
  unfold Yh
  rw[if_neg h]
  refine So .xor _ 18446744073709551615 _ (by omega) (by omega) (by omega) ?_ (.inr (.inr rfl))
  show _ ^^^ _=_
  rw[Z2a _ (by omega)]
  omega
theorem VY (n:Int):IntKind.i64.wrap n=Ya n:=by
 rw[←UX];exact IntWalk.i64_left n
theorem Z7e {n:Nat} (h:n<18446744073709551616):bits .xor .i64 ((n:Int) / 2) (wrap64 (-wrap64 (bits .and .u64 (n:Int) 1)))=YN n:=by
 rw[Z2e n h,UX,UX]
 unfold bits
 dsimp only
 rw[VY]
 have e64:IntKind.i64.bits=64:=rfl
 have e0:((n:Int) / 2)=((n / 2:Nat):Int):=by omega
 by_cases hp:n % 2=0
 ·have e1:Ya (-Ya ((n % 2:Nat):Int))=((0:Nat):Int):=by rw[hp];decide
  rw[e1,e0,YI,YI,e64,BitVec.toNat_xor,BitVec.toNat_ofNat,BitVec.toNat_ofNat,Nat.mod_eq_of_lt (show n / 2<2 ^ 64 by omega),Nat.zero_mod,Nat.xor_zero]
  unfold YN Ya
  rw[if_pos hp]
  omega
 ·have e1:Ya (-Ya ((n % 2:Nat):Int))=-1:=by rw[show n % 2=1 by omega];decide
  have e2:(BitVec.ofInt 64 (-1)).toNat=18446744073709551615:=by decide
  rw[e1,e0,YI,e64,BitVec.toNat_xor,BitVec.toNat_ofNat,e2,Nat.mod_eq_of_lt (show n / 2<2 ^ 64 by omega),Z2a _ (by omega)]
  unfold YN Ya
  rw[if_neg hp]
  omega
theorem Z7n (n:Int) (w:World) (h1:-9223372036854775808≤n) (h2:n≤9223372036854775807):Calls Tryz.prog 148 #[.int .i64 n] w fun e w'=>e=.returned (.int .u64 (Yh n))∧w=w':=by
 have hz:=Z6S h1 h2
 have HZ:=Lib.hid hz
 clear hz
 go_enter Tryz.func148,Tryz.ntmps148
 go_wp2
 go_ret
 exact ⟨congrArg (fun x=>Ending.returned (.int .u64 x)) HZ.out,rfl⟩
theorem Z0U (n:Nat) (w:World) (h:n<18446744073709551616):Calls Tryz.prog 180 #[.int .u64 n] w fun e w'=>e=.returned (.int .i64 (YN n))∧w=w':=by
 have HZ:=Lib.hid (Z7e h)
 go_enter Tryz.func180,Tryz.ntmps180
 go_wp2
 go_ret
 exact ⟨congrArg (fun x=>Ending.returned (.int .i64 x)) HZ.out,rfl⟩
theorem Z2P (n:Int) (w:World) (h1:-9223372036854775808≤n) (h2:n≤9223372036854775807):Calls Tryz.prog 157 #[.int .i64 n] w fun e w'=>e=.returned (.int .u64 (Yh n))∧w=w':=by
 by_cases h:0≤n
 ·have hz:Yh n=(2*n).toNat:=by unfold Yh;rw[if_pos h]
  have HZ:=Lib.hid hz
  clear hz
  go_enter Tryz.func157,Tryz.ntmps157
  go_wp2
  go_ret
  refine ⟨congrArg (fun x=>Ending.returned (.int .u64 x)) ?_,rfl⟩
  rw[HZ.out]
  first|omega|(simp only[Yc];omega)
 ·have hz:Yh n=(-2*n - 1).toNat:=by unfold Yh;rw[if_neg h]
  have HZ:=Lib.hid hz
  clear hz
  go_enter Tryz.func157,Tryz.ntmps157
  go_wp2
  go_ret
  refine ⟨congrArg (fun x=>Ending.returned (.int .u64 x)) ?_,rfl⟩
  rw[HZ.out]
  first|omega|(simp only[Yc];omega)
theorem Z68 (n:Nat) (w:World) (h:n<18446744073709551616):Calls Tryz.prog 107 #[.int .u64 n] w fun e w'=>e=.returned (.int .i64 (YN n))∧w=w':=by
 by_cases hp:n % 2=0
 ·have hz:YN n=((n / 2:Nat):Int):=by unfold YN;rw[if_pos hp]
  have HZ:=Lib.hid hz
  have hp':(n:Int) % 2=0:=by omega
  clear hz hp
  go_enter Tryz.func107,Tryz.ntmps107
  go_wp2
  go_ret
  refine ⟨congrArg (fun x=>Ending.returned (.int .i64 x)) ?_,rfl⟩
  rw[HZ.out]
  omega
 ·have hz:YN n=-((n / 2:Nat):Int) - 1:=by unfold YN;rw[if_neg hp]
  have HZ:=Lib.hid hz
  have hp':¬ (n:Int) % 2=0:=by omega
  clear hz hp
  go_enter Tryz.func107,Tryz.ntmps107
  go_wp2
  go_ret
  refine ⟨congrArg (fun x=>Ending.returned (.int .i64 x)) ?_,rfl⟩
  rw[HZ.out]
  omega
end Go.Proofs.YtgmdimbiipemhaaGreatDoor
namespace Go.Proofs.YtgmdimbiipemhaaGreatDoor
open Go.RowKit Go.Deep Go.Shelf
theorem ZK (w:World) (o:Obj):(w.alloc o).heap[w.heap.size]?=some o:=by
 show (w.heap.push o)[w.heap.size]?=_
 simp
theorem Z1R {P:Program} {o:Oper} {a:Act} {w w':World} {s x:Operand} {t tn:TypeId} {v vx v':Value} (hop:o.op=.call { callee:=.builtin .copy,args:=#[s,x],argTypes:=#[t,tn] }) (hs:a.eval s=v) (hx:a.eval x=vx)
  (hr:(Builtin.copy_ #[t,tn] o.type #[v,vx]).run P w=.ok v' w'):(execOp a.eval o).run P w=.ok (.value v') w':=by
 unfold execOp
 simp only[hop,resolve,invoke,builtin,Sem.run_bind,Sem.run_pure,Result.andThen_ok,List.map_toArray,List.map_cons,List.map_nil,hs,hx,hr]
def ZW (u z:Value) (k j:Nat):List Value:=List.replicate j u++List.replicate (k - j) z
theorem Z34 {u z:Value} {k j:Nat} (h:j≤k):(ZW u z k j).length=k:=by simp[ZW];omega
theorem TG {u z:Value} {k j m:Nat} (hj:j+m≤k):(ZW u z k j).take j++List.replicate m u++(ZW u z k j).drop (j+m)=ZW u z k (j+m):=by
 unfold ZW
 rw[List.take_left' (by simp),List.drop_append,List.drop_eq_nil_of_le (by simp),List.nil_append,List.length_replicate,List.drop_replicate,show k - j - (j+m - j)=k - (j+m) by omega,List.replicate_append_replicate]
theorem Z6Z {u z:Value} {k:Nat}:ZW u z k k=List.replicate k u:=by simp[ZW]
theorem Z1w {u z:Value} {k j i:Nat} {W:World} {g:Nat} {E:TypeId} (hg:W.heap[g]?=some (.cells (ZW u z k j).toArray E (0,0))) (hi:i<j):W.cell? ⟨g,i,none⟩=some u:=by
 unfold World.cell?
 rw[hg]
 simp[ZW,List.getElem?_append_left (show i<(List.replicate j u).length by simpa using hi),hi]
theorem SH (z:Value) (h:z.cells=#[z]) (k:Nat):madeCells z.cells (k*1)=(ZW z z k 0).toArray:=by
 unfold ZW
 rw[h]
 apply Array.ext_getElem?
 intro i
 simp[madeCells]
 try grind
theorem Own.of_row {α:Type} {ea:α→List Value} {e:TypeId} {base g:Nat} {w:World} {l:List α} {cs:List Value} (h1:∀ x,∃ u,ea x=[u]) (hg:w.heap[g]?=some (.cells cs.toArray e (0,0))) (hb:base≤g) (hcs:cs=l.flatMap ea) (hl:l.length≤maxLen) :
  Own ea 1 e base w (.slice (some ⟨g,0,none⟩) l.length l.length) l:=by
 have hlen:∀ l:List α,(l.flatMap ea).length=l.length:=by
  intro l
  induction l with
  | nil=>rfl
  | cons x l ih=>obtain ⟨u,hu⟩:=h1 x;rw[List.flatMap_cons,List.length_append,ih,hu];simp;omega
 subst hcs
 refine ⟨by rw[hlen,Nat.mul_one],.inr ⟨g,l.length,_,rfl,hb,hg,Nat.le_refl _,hl,by simp[hlen],?_⟩⟩
 rw[List.take_of_length_le (by simp[hlen])]
theorem Ry {α:Type} {ea:α→List Value} {e:TypeId} {g k:Nat} {w:World} {x:α} {u z:Value} (h1:∀ x,∃ u,ea x=[u]) (hx:ea x=[u]) (hg:w.heap[g]?=some (.cells (ZW u z k k).toArray e (0,0))) (hk:k≤65536) :
  Own ea 1 e g w (.slice (some ⟨g,0,none⟩) k k) (List.replicate k x):=by
 have h:=Own.of_row (ea:=ea) (l:=List.replicate k x) (cs:=ZW u z k k) (base:=g) h1 hg (Nat.le_refl _) (by
  rw[Z6Z]
  clear hg hk
  induction k with
  | zero=>rfl
  | succ k ih=>rw[List.replicate_succ,List.replicate_succ,List.flatMap_cons,hx,←ih];rfl) (by rw[List.length_replicate];unfold maxLen;omega)
 rw[List.length_replicate] at h
 exact h
theorem Z4K (x:Int) (b c k:Nat) (w:World) (hb:w.cell? ⟨b,0,none⟩=some (.int .i64 x)) (hk:k≤65536) (hc:1≤c):Calls Tryz.prog 181 #[.slice (some ⟨b,0,none⟩) 1 c,.int .i64 k] w fun e w'=>∃ v,e=.returned v∧Own Zi 1 3 w.heap.size w' v (List.replicate k x)∧Below w.heap.size w w':=by
 have hmul:=Any.bits_Mul Tryz.mulF 1 k (by omega) (by omega) w
 have hmul2:Calls Tryz.prog 204 #[.int .u64 1,.int .u64 k] w fun e w'=>e=.returned (.tuple #[.int .u64 0,.int .u64 k])∧w'=w:=by
  have e1:1*k / 18446744073709551616=0:=by omega
  have e2:1*k % 18446744073709551616=k:=by omega
  rw[e1,e2] at hmul
  exact hmul
 have HM:=Lib.hid hmul2
 clear hmul hmul2
 obtain ⟨i0,hi,hy0,hy1,hy2⟩:=info_parts Wi
 have hmk:=run_makeSlice (P:=Tryz.prog) w 100 3 i0 (Value.int .i64 0) Tryz.underlying100 hi hy0 .i64 .i64 (k:Int) (k:Int) (by omega) (by omega) (by rw[hy1];omega) (by rw[hy2];omega) (by omega)
 rw[hy1,Int.toNat_natCast,SH (Value.int .i64 0) rfl] at hmk
 obtain ⟨g,hg⟩:=Je (w.heap.size)
 rw[hg] at hmk
 obtain ⟨Z,hZ⟩:∃ Z:World,w.alloc (.cells (ZW (Value.int .i64 0) (Value.int .i64 0) k 0).toArray 3)=Z:=⟨_,rfl⟩
 have hz:Z.heap[g]?=some (.cells (ZW (Value.int .i64 x) (Value.int .i64 0) k 0).toArray 3 (0,0)):=by rw[←hZ,←hg];exact ZK w _
 have HB0:Hid (Below g w Z):=Jh (by rw[←hZ,←hg];exact (Below.refl _ _).alloc (Nat.le_refl _) _)
 rw[hZ] at hmk
 have hbZ:Z.cell? ⟨b,0,none⟩=some (Value.int .i64 x):=ZH (by rw[hg];exact HB0.out) hb
 have hsz:(Tryz.prog.info? 3).map (·.size)=some 1:=by rw[hi];simp[hy1]
 have h64:IntKind.u64.wrap (k:Int)=(k:Int):=by rw[Yc];omega
 go_enter Tryz.func181,Tryz.ntmps181
 go_wp2_with fail
 refine HM.out.mono ?_
 rintro e w5 ⟨rfl,e5⟩
 rw[e5]
 clear e5 w5
 by_cases hk0:k=0
 ·have hcp:=run_copy_none (P:=Tryz.prog) Z 100 100 3 3 (some ⟨g,0,none⟩) (some ⟨b,0,none⟩) k k 1 c Tryz.underlying100 hsz (by rw[hk0];rfl)
  have HK0:=Lib.hid hk0
  clear hk0
  go_wp2_with fail
  go_loopg [8] 0 (fun gk nv wr=>gk=0∧nv=.int .i64 0∧wr=Z)
  case atStart=>exact ⟨rfl,rfl,rfl⟩
  case round =>
   obtain ⟨rfl,rfl,rfl⟩:=hrel
   have hk1:¬ (0:Int)<(k:Int):=by have:=HK0.out;omega
   have HO:Hid (Own Zi 1 3 g wr (.slice (some ⟨g,0,none⟩) k k) (List.replicate k x)):=Jh (Ry (u:=(Value.int .i64 x)) (z:=(Value.int .i64 0)) (fun x=>⟨_,rfl⟩) rfl (by rw[HK0.out] at hz ⊢;exact hz) hk)
   clear hz hcp hmk hbZ hk
   go_wp2_with fail
   go_ret
   try rw[hg]
   exact ⟨_,rfl,HO.out,HB0.out⟩
 ·have hcp:=run_copy_row (P:=Tryz.prog) Z 100 100 3 3 g 0 k k ⟨b,0,none⟩ 1 c (ZW (Value.int .i64 x) (Value.int .i64 0) k 0).toArray 3 [(Value.int .i64 x)] Tryz.underlying100 hsz hz (by simp[Nat.min_def];omega) (fun j v hj=>by cases j with|zero=>cases hj;exact hbZ|succ j=>simp at hj) (by simp[ZW];omega) (fun v hv=>by rw[List.mem_singleton.1 hv];rfl)
  have hr1:(ZW (Value.int .i64 x) (Value.int .i64 0) k 0).toArray.toList.take 0++[(Value.int .i64 x)]++(ZW (Value.int .i64 x) (Value.int .i64 0) k 0).toArray.toList.drop (0+[(Value.int .i64 x)].length)=ZW (Value.int .i64 x) (Value.int .i64 0) k 1:=TG (m:=1) (by omega)
  rw[hr1] at hcp
  obtain ⟨Z1,hZ1⟩:=Je (Z.setRow g (ZW (Value.int .i64 x) (Value.int .i64 0) k 1).toArray)
  rw[hZ1] at hcp
  have HZ1:Hid (Z1.heap[g]?=some (.cells (ZW (Value.int .i64 x) (Value.int .i64 0) k 1).toArray 3 (0,0))∧Below g w Z1):=Lib.hid ⟨by rw[←hZ1];exact setRow_heap Z g _ _ _ _ hz,by rw[←hZ1];exact below_setRow HB0.out (Nat.le_refl _) _⟩
  clear hr1 hZ1 hz hbZ hZ
  go_wp2_with fail
  clear hcp hmk
  go_loopg [8] (k - 1) (fun gk nv wr=>∃ j:Nat,gk=k - j∧nv=.int .i64 j∧1≤j∧j≤k∧Hid (wr.heap[g]?=some (.cells (ZW (Value.int .i64 x) (Value.int .i64 0) k j).toArray 3 (0,0))∧Below g w wr))
  case atStart=>exact ⟨1,rfl,rfl,Nat.le_refl _,by omega,HZ1⟩
  case round =>
   clear HZ1
   obtain ⟨j,hgk,rfl,hj1,hjk,HR⟩:=hrel
   have HGK:=Lib.hid hgk
   clear hgk
   by_cases hlt:j<k
   ·have hl1:(j:Int)<(k:Int):=by omega
    go_upto_region 9 with fail
    have HR1:Hid (wr.drew.heap[g]?=some (.cells (ZW (Value.int .i64 x) (Value.int .i64 0) k j).toArray 3 (0,0))∧Below g w wr.drew):=Lib.hid ⟨HR.out.1,HR.out.2.drew⟩
    clear HR
    have hS0:(fun _:World=>True) wr.drew:=trivial
    refine Z7 (fun _=>True) (fun _=>false) (by kernel_rfl) ?_
    generalize wr.drew=W1 at HR1 ⊢
    have hn1:((k:Int) - (j:Int)).toNat=k - j:=by omega
    have hn2:¬ (k:Int)<(j:Int):=by omega
    have hn3:(j:Int)≤(k:Int):=by omega
    have hne:¬ k=j:=by omega
    refine J0 0 38 _ hS0 ?_
    try simp only[Ja]
    refine J0 1 39 _ hS0 ?_
    try simp only[Ja]
    refine J0 2 40 _ hS0 ?_
    try simp only[Ja]
    refine J0 3 41 (.slice (some ⟨g,j,none⟩) (k - j) (k - j)) hS0 ?_
    try simp only[Ja]
    refine J0 4 42 _ hS0 ?_
    try simp only[Ja]
    refine J0 5 43 _ hS0 ?_
    try simp only[Ja]
    refine J0 6 44 (.slice (some ⟨g,0,none⟩) j k) hS0 ?_
    try simp only[Ja]
    obtain ⟨m,hm,hmj,hmle⟩:∃ m,m=Nat.min j (k - j)∧m≤j∧(j+m≤k∧1≤m):=⟨_,rfl,Nat.min_le_left _ _,by simp only[Nat.min_def];split <;> omega⟩
    have hcp:=run_copy_row (P:=Tryz.prog) W1 100 100 3 3 g j (k - j) (k - j) ⟨g,0,none⟩ j k (ZW (Value.int .i64 x) (Value.int .i64 0) k j).toArray 3 (List.replicate m (Value.int .i64 x)) Tryz.underlying100 hsz HR1.out.1 (by rw[List.length_replicate];exact hm) (fun i v hi=>by
     have hi2:=(List.getElem?_eq_some_iff.1 hi).1
     rw[List.length_replicate] at hi2
     rw[List.getElem?_replicate,if_pos hi2] at hi
     cases hi
     have hij:i<j:=by omega
     have h:=Z1w HR1.out.1 hij
     rw[show (Addr.add ⟨g,0,none⟩ i)=⟨g,i,none⟩ from by unfold Addr.add;split <;> simp_all]
     exact h) (by rw[List.length_replicate];have:=Z34 (u:=(Value.int .i64 x)) (z:=(Value.int .i64 0)) hjk;simp only[List.size_toArray];omega) (fun v hv=>by rw[(List.mem_replicate.1 hv).2];rfl)
    have hr1:(ZW (Value.int .i64 x) (Value.int .i64 0) k j).toArray.toList.take j++List.replicate m (Value.int .i64 x)++(ZW (Value.int .i64 x) (Value.int .i64 0) k j).toArray.toList.drop (j+(List.replicate m (Value.int .i64 x)).length)=ZW (Value.int .i64 x) (Value.int .i64 0) k (j+m):=by rw[List.length_replicate];exact TG hmle.1
    rw[hr1,List.length_replicate] at hcp
    clear hm
    have HR2:Hid ((W1.setRow g (ZW (Value.int .i64 x) (Value.int .i64 0) k (j+m)).toArray).heap[g]?=some (.cells (ZW (Value.int .i64 x) (Value.int .i64 0) k (j+m)).toArray 3 (0,0))∧Below g w (W1.setRow g (ZW (Value.int .i64 x) (Value.int .i64 0) k (j+m)).toArray)):=Lib.hid ⟨setRow_heap W1 g _ _ _ _ HR1.out.1,below_setRow HR1.out.2 (Nat.le_refl _) _⟩
    generalize W1.setRow g (ZW (Value.int .i64 x) (Value.int .i64 0) k (j+m)).toArray=W2 at hcp HR2
    refine Zj (i:=7) (d:=some 45) (v:=.int .i64 m) (w':=W2) (by kernel_rfl) rfl rfl (by rfl) (Z1R rfl rfl rfl hcp) (fun _=>trivial) ?_
    try simp only[Ja]
    have hadd:IntKind.i64.wrap ((j:Int)+(m:Int))=((j+m:Nat):Int):=by rw[IntWalk.i64_in _ (by omega)];omega
    refine Zj (i:=8) (d:=some 46) (v:=.int .i64 ((j+m:Nat):Int)) (w':=W2) (by kernel_rfl) rfl rfl (by rfl) (by go_simp;try rfl) (fun _=>trivial) ?_
    try simp only[Ja]
    refine Zj (i:=9) (d:=some 8) (v:=.int .i64 ((j+m:Nat):Int)) (w':=W2) (by kernel_rfl) rfl rfl (by rfl) (by go_simp;try rfl) (fun _=>trivial) ?_
    try simp only[Ja]
    refine Z3 (by kernel_rfl) ?_ _
    clear hS0 hcp hr1 HR1
    go_wp2_with fail
    go_roundg (k - (j+m))
    case measure=>rw[HGK.out];omega
    case rel=>exact ⟨j+m,rfl,rfl,by omega,by omega,HR2⟩
   ·obtain rfl:j=k:=by omega
    have hl1:¬ (j:Int)<(j:Int):=by omega
    have HO:Hid (Own Zi 1 3 g wr (.slice (some ⟨g,0,none⟩) j j) (List.replicate j x)):=Jh (Ry (u:=(Value.int .i64 x)) (z:=(Value.int .i64 0)) (fun x=>⟨_,rfl⟩) rfl HR.out.1 hk)
    clear hlt hk
    go_wp2_with fail
    go_ret
    try rw[hg]
    exact ⟨_,rfl,HO.out,HR.out.2⟩
theorem Z5k (x:Bool) (b c k:Nat) (w:World) (hb:w.cell? ⟨b,0,none⟩=some (.bool x)) (hk:k≤65536) (hc:1≤c):Calls Tryz.prog 182 #[.slice (some ⟨b,0,none⟩) 1 c,.int .i64 k] w fun e w'=>∃ v,e=.returned v∧Own btc 1 4 w.heap.size w' v (List.replicate k x)∧Below w.heap.size w w':=by
 have hmul:=Any.bits_Mul Tryz.mulF 1 k (by omega) (by omega) w
 have hmul2:Calls Tryz.prog 204 #[.int .u64 1,.int .u64 k] w fun e w'=>e=.returned (.tuple #[.int .u64 0,.int .u64 k])∧w'=w:=by
  have e1:1*k / 18446744073709551616=0:=by omega
  have e2:1*k % 18446744073709551616=k:=by omega
  rw[e1,e2] at hmul
  exact hmul
 have HM:=Lib.hid hmul2
 clear hmul hmul2
 obtain ⟨i0,hi,hy0,hy1,hy2⟩:=info_parts UH
 have hmk:=run_makeSlice (P:=Tryz.prog) w 75 4 i0 (Value.bool false) Tryz.underlying75 hi hy0 .i64 .i64 (k:Int) (k:Int) (by omega) (by omega) (by rw[hy1];omega) (by rw[hy2];omega) (by omega)
 rw[hy1,Int.toNat_natCast,SH (Value.bool false) rfl] at hmk
 obtain ⟨g,hg⟩:=Je (w.heap.size)
 rw[hg] at hmk
 obtain ⟨Z,hZ⟩:∃ Z:World,w.alloc (.cells (ZW (Value.bool false) (Value.bool false) k 0).toArray 4)=Z:=⟨_,rfl⟩
 have hz:Z.heap[g]?=some (.cells (ZW (Value.bool x) (Value.bool false) k 0).toArray 4 (0,0)):=by rw[←hZ,←hg];exact ZK w _
 have HB0:Hid (Below g w Z):=Jh (by rw[←hZ,←hg];exact (Below.refl _ _).alloc (Nat.le_refl _) _)
 rw[hZ] at hmk
 have hbZ:Z.cell? ⟨b,0,none⟩=some (Value.bool x):=ZH (by rw[hg];exact HB0.out) hb
 have hsz:(Tryz.prog.info? 4).map (·.size)=some 1:=by rw[hi];simp[hy1]
 have h64:IntKind.u64.wrap (k:Int)=(k:Int):=by rw[Yc];omega
 go_enter Tryz.func182,Tryz.ntmps182
 go_wp2_with fail
 refine HM.out.mono ?_
 rintro e w5 ⟨rfl,e5⟩
 rw[e5]
 clear e5 w5
 by_cases hk0:k=0
 ·have hcp:=run_copy_none (P:=Tryz.prog) Z 75 75 3 4 (some ⟨g,0,none⟩) (some ⟨b,0,none⟩) k k 1 c Tryz.underlying75 hsz (by rw[hk0];rfl)
  have HK0:=Lib.hid hk0
  clear hk0
  go_wp2_with fail
  go_loopg [8] 0 (fun gk nv wr=>gk=0∧nv=.int .i64 0∧wr=Z)
  case atStart=>exact ⟨rfl,rfl,rfl⟩
  case round =>
   obtain ⟨rfl,rfl,rfl⟩:=hrel
   have hk1:¬ (0:Int)<(k:Int):=by have:=HK0.out;omega
   have HO:Hid (Own btc 1 4 g wr (.slice (some ⟨g,0,none⟩) k k) (List.replicate k x)):=Jh (Ry (u:=(Value.bool x)) (z:=(Value.bool false)) (fun x=>⟨_,rfl⟩) rfl (by rw[HK0.out] at hz ⊢;exact hz) hk)
   clear hz hcp hmk hbZ hk
   go_wp2_with fail
   go_ret
   try rw[hg]
   exact ⟨_,rfl,HO.out,HB0.out⟩
 ·have hcp:=run_copy_row (P:=Tryz.prog) Z 75 75 3 4 g 0 k k ⟨b,0,none⟩ 1 c (ZW (Value.bool x) (Value.bool false) k 0).toArray 4 [(Value.bool x)] Tryz.underlying75 hsz hz (by simp[Nat.min_def];omega) (fun j v hj=>by cases j with|zero=>cases hj;exact hbZ|succ j=>simp at hj) (by simp[ZW];omega) (fun v hv=>by rw[List.mem_singleton.1 hv];rfl)
  have hr1:(ZW (Value.bool x) (Value.bool false) k 0).toArray.toList.take 0++[(Value.bool x)]++(ZW (Value.bool x) (Value.bool false) k 0).toArray.toList.drop (0+[(Value.bool x)].length)=ZW (Value.bool x) (Value.bool false) k 1:=TG (m:=1) (by omega)
  rw[hr1] at hcp
  obtain ⟨Z1,hZ1⟩:=Je (Z.setRow g (ZW (Value.bool x) (Value.bool false) k 1).toArray)
  rw[hZ1] at hcp
  have HZ1:Hid (Z1.heap[g]?=some (.cells (ZW (Value.bool x) (Value.bool false) k 1).toArray 4 (0,0))∧Below g w Z1):=Lib.hid ⟨by rw[←hZ1];exact setRow_heap Z g _ _ _ _ hz,by rw[←hZ1];exact below_setRow HB0.out (Nat.le_refl _) _⟩
  clear hr1 hZ1 hz hbZ hZ
  go_wp2_with fail
  clear hcp hmk
  go_loopg [8] (k - 1) (fun gk nv wr=>∃ j:Nat,gk=k - j∧nv=.int .i64 j∧1≤j∧j≤k∧Hid (wr.heap[g]?=some (.cells (ZW (Value.bool x) (Value.bool false) k j).toArray 4 (0,0))∧Below g w wr))
  case atStart=>exact ⟨1,rfl,rfl,Nat.le_refl _,by omega,HZ1⟩
  case round =>
   clear HZ1
   obtain ⟨j,hgk,rfl,hj1,hjk,HR⟩:=hrel
   have HGK:=Lib.hid hgk
   clear hgk
   by_cases hlt:j<k
   ·have hl1:(j:Int)<(k:Int):=by omega
    go_upto_region 9 with fail
    have HR1:Hid (wr.drew.heap[g]?=some (.cells (ZW (Value.bool x) (Value.bool false) k j).toArray 4 (0,0))∧Below g w wr.drew):=Lib.hid ⟨HR.out.1,HR.out.2.drew⟩
    clear HR
    have hS0:(fun _:World=>True) wr.drew:=trivial
    refine Z7 (fun _=>True) (fun _=>false) (by kernel_rfl) ?_
    generalize wr.drew=W1 at HR1 ⊢
    have hn1:((k:Int) - (j:Int)).toNat=k - j:=by omega
    have hn2:¬ (k:Int)<(j:Int):=by omega
    have hn3:(j:Int)≤(k:Int):=by omega
    have hne:¬ k=j:=by omega
    refine J0 0 38 _ hS0 ?_
    try simp only[Ja]
    refine J0 1 39 _ hS0 ?_
    try simp only[Ja]
    refine J0 2 40 _ hS0 ?_
    try simp only[Ja]
    refine J0 3 41 (.slice (some ⟨g,j,none⟩) (k - j) (k - j)) hS0 ?_
    try simp only[Ja]
    refine J0 4 42 _ hS0 ?_
    try simp only[Ja]
    refine J0 5 43 _ hS0 ?_
    try simp only[Ja]
    refine J0 6 44 (.slice (some ⟨g,0,none⟩) j k) hS0 ?_
    try simp only[Ja]
    obtain ⟨m,hm,hmj,hmle⟩:∃ m,m=Nat.min j (k - j)∧m≤j∧(j+m≤k∧1≤m):=⟨_,rfl,Nat.min_le_left _ _,by simp only[Nat.min_def];split <;> omega⟩
    have hcp:=run_copy_row (P:=Tryz.prog) W1 75 75 3 4 g j (k - j) (k - j) ⟨g,0,none⟩ j k (ZW (Value.bool x) (Value.bool false) k j).toArray 4 (List.replicate m (Value.bool x)) Tryz.underlying75 hsz HR1.out.1 (by rw[List.length_replicate];exact hm) (fun i v hi=>by
     have hi2:=(List.getElem?_eq_some_iff.1 hi).1
     rw[List.length_replicate] at hi2
     rw[List.getElem?_replicate,if_pos hi2] at hi
     cases hi
     have hij:i<j:=by omega
     have h:=Z1w HR1.out.1 hij
     rw[show (Addr.add ⟨g,0,none⟩ i)=⟨g,i,none⟩ from by unfold Addr.add;split <;> simp_all]
     exact h) (by rw[List.length_replicate];have:=Z34 (u:=(Value.bool x)) (z:=(Value.bool false)) hjk;simp only[List.size_toArray];omega) (fun v hv=>by rw[(List.mem_replicate.1 hv).2];rfl)
    have hr1:(ZW (Value.bool x) (Value.bool false) k j).toArray.toList.take j++List.replicate m (Value.bool x)++(ZW (Value.bool x) (Value.bool false) k j).toArray.toList.drop (j+(List.replicate m (Value.bool x)).length)=ZW (Value.bool x) (Value.bool false) k (j+m):=by rw[List.length_replicate];exact TG hmle.1
    rw[hr1,List.length_replicate] at hcp
    clear hm
    have HR2:Hid ((W1.setRow g (ZW (Value.bool x) (Value.bool false) k (j+m)).toArray).heap[g]?=some (.cells (ZW (Value.bool x) (Value.bool false) k (j+m)).toArray 4 (0,0))∧Below g w (W1.setRow g (ZW (Value.bool x) (Value.bool false) k (j+m)).toArray)):=Lib.hid ⟨setRow_heap W1 g _ _ _ _ HR1.out.1,below_setRow HR1.out.2 (Nat.le_refl _) _⟩
    generalize W1.setRow g (ZW (Value.bool x) (Value.bool false) k (j+m)).toArray=W2 at hcp HR2
    refine Zj (i:=7) (d:=some 45) (v:=.int .i64 m) (w':=W2) (by kernel_rfl) rfl rfl (by rfl) (Z1R rfl rfl rfl hcp) (fun _=>trivial) ?_
    try simp only[Ja]
    have hadd:IntKind.i64.wrap ((j:Int)+(m:Int))=((j+m:Nat):Int):=by rw[IntWalk.i64_in _ (by omega)];omega
    refine Zj (i:=8) (d:=some 46) (v:=.int .i64 ((j+m:Nat):Int)) (w':=W2) (by kernel_rfl) rfl rfl (by rfl) (by go_simp;try rfl) (fun _=>trivial) ?_
    try simp only[Ja]
    refine Zj (i:=9) (d:=some 8) (v:=.int .i64 ((j+m:Nat):Int)) (w':=W2) (by kernel_rfl) rfl rfl (by rfl) (by go_simp;try rfl) (fun _=>trivial) ?_
    try simp only[Ja]
    refine Z3 (by kernel_rfl) ?_ _
    clear hS0 hcp hr1 HR1
    go_wp2_with fail
    go_roundg (k - (j+m))
    case measure=>rw[HGK.out];omega
    case rel=>exact ⟨j+m,rfl,rfl,by omega,by omega,HR2⟩
   ·obtain rfl:j=k:=by omega
    have hl1:¬ (j:Int)<(j:Int):=by omega
    have HO:Hid (Own btc 1 4 g wr (.slice (some ⟨g,0,none⟩) j j) (List.replicate j x)):=Jh (Ry (u:=(Value.bool x)) (z:=(Value.bool false)) (fun x=>⟨_,rfl⟩) rfl HR.out.1 hk)
    clear hlt hk
    go_wp2_with fail
    go_ret
    try rw[hg]
    exact ⟨_,rfl,HO.out,HR.out.2⟩
end Go.Proofs.YtgmdimbiipemhaaGreatDoor
