/- ViewBuilds, part 5 of what the proof leans on (made short by a program). -/
import Derived.Test.YtlgipkemoldckaaGreatDoorVbZ4
set_option linter.unusedSimpArgs false
set_option linter.unusedVariables false
set_option linter.unusedSectionVars false
set_option maxRecDepth 20000
set_option maxHeartbeats 30000000
namespace Go.Proofs.YtlgipkemoldckaaGreatDoor
open Go.RowKit
theorem Xt (w:World) (l:Nat) (o:Obj):Ext (·=l) w (w.putObj l o) :=
 ⟨rfl,rfl,rfl,by simp[World.putObj],fun k hk hn=>World.putObj_heap_other (by omega)⟩
section
variable {K V:Type} [DecidableEq K] {ek:K→Value} {ev:V→Value} {w:World} {b:Nat} {l:List (K × V)}
theorem YC {w:World} {b:Nat} {es:Array MapEntry} {clock:Nat} (h:w.heap[b]?=some (.map es clock)) (es':Array MapEntry) (clock':Nat) (a:Addr):(w.putObj b (.map es' clock')).cell? a=w.cell? a:=by
 have hlt:b<w.heap.size:=(Array.getElem?_eq_some_iff.1 h).1
 by_cases e:a.block=b
 ·subst e
  have h2:(w.putObj a.block (.map es' clock')).heap[a.block]?=some (.map es' clock'):=World.putObj_heap_same hlt
  simp only[World.cell?,h,h2]
 ·exact World.cell?_of_block (w:=w) (World.putObj_heap_other (by omega))
theorem Z1g {l:List (K × V)} {k:K} (v:V) (h:Zp l k=none):Zp (l++[(k,v)]) k=some l.length:=by
 induction l with
 | nil=>simp[Zp]
 | cons p r ih =>
  obtain ⟨a,b⟩:=p
  simp only[Zp] at h
  split at h
  ·cases h
  ·rename_i hne
   have:=ih (by simpa using h)
   simp[Zp,hne,this]
theorem UP {l:List MapEntry} (hn:l.Pairwise (fun x y=>x.born<y.born)) {j:Nat} {e0:MapEntry} (h:l[j]?=some e0):l.findIdx? (fun e=>((e.born:Nat):Int) == ((e0.born:Nat):Int))=some j:=by
 induction l generalizing j with
 | nil=>simp at h
 | cons a r ih =>
  rw[List.pairwise_cons] at hn
  cases j with
  | zero =>
   simp only[List.getElem?_cons_zero,Option.some.injEq] at h
   subst h
   simp[List.findIdx?_cons]
  | succ j =>
   simp only[List.getElem?_cons_succ] at h
   have hne:a.born≠e0.born:=fun e1=>by
    have:=hn.1 e0 (List.mem_of_getElem? h)
    omega
   have hb:(((a.born:Nat):Int) == ((e0.born:Nat):Int))=false:=by
    simp only[beq_eq_false_iff_ne,ne_eq,Int.natCast_inj]
    exact hne
   rw[List.findIdx?_cons,hb]
   simp[ih hn.2 h]
theorem UZ (xs:Array MapEntry) (p:MapEntry→Bool):xs.findIdx? p=xs.toList.findIdx? p:=by
 cases xs
 simp
theorem T2 {α:Type} (f:α→α) (a:α):∀ l:List α,(l++[a]).modify l.length f=l++[f a]
 | []=>rfl
 | b :: r=>by simp[List.modify_succ_cons,T2 f a r]
theorem RG {α:Type}:∀ (l:List α) (j:Nat) (a:α),l[j]?=some a→l.set j a=l
 | [],_,_,h=>by simp at h
 | b :: r,0,a,h=>by simp at h;simp[h]
 | b :: r,j+1,a,h=>by simp at h;simp[RG r j a h]
theorem Z6.entry {P:Program} {mt kt et:TypeId} (h:Z6 ek ev w b l) (hk:WB (V:=V) P kt ek) (hm:P.underlying mt=some (.map kt et)) {z:Value} (hz:∀ w,(zeroValue et).run P w=.ok z w) (k:K) (v0:V) :
  ∃ (st:Nat) (es1:Array MapEntry) (c1:Nat),(∀ W,W.heap[b]?=w.heap[b]?→(Instr.mapEntry mt (.map (some b)) (ek k)).run P W=.ok (.tuple #[((Z5 l k).map ev).getD z,.int .i64 st]) (W.putObj b (.map es1 c1)))∧(∀ W,W.heap[b]?=w.heap[b]?→(Instr.lookup mt (.map (some b)) (ek k) false).run P W=.ok (((Z5 l k).map ev).getD z) W) ∧
   (∀ W,W.heap[b]?=some (.map es1 c1)→(Instr.lookup mt (.map (some b)) (ek k) false).run P W=.ok (((Z5 l k).map ev).getD z) W) ∧
   ∀ W v,W.heap[b]?=some (.map es1 c1)→∃ es2 c2,(Instr.entryStore mt (.map (some b)) (.int .i64 st) (ev v)).run P W=.ok () (W.putObj b (.map es2 c2))∧Z6 ek ev (W.putObj b (.map es2 c2)) b (Zx l k v):=by
 have hp:=fun v=>h.put k v
 have hlt:=h.lt
 obtain ⟨hn,es,clock,h1,h2,h3,h4,h5⟩:=id h
 have hf:=fun W=>hk.find k es.toList l W h2
 have hlook:=fun (W:World) (hW:W.heap[b]?=w.heap[b]?)=>(h.of_block (w':=W) hW).lookup hk hm hz k
 have hpw:∀ v,(es.push { key:=ek k,val:=v,born:=clock }).toList.Pairwise (fun x y=>x.born<y.born):=fun v=>by
  rw[Array.toList_push,List.pairwise_append]
  exact ⟨h4,List.pairwise_singleton _ _,fun x hx y hy=>by rw[List.mem_singleton.1 hy];exact h5 x hx⟩
 cases hi:Zp l k with
 | none =>
  have h0:=UK hi
  simp only[hi,Option.map_none] at hf
  have hsz:es.size=l.length:=by
   have:=congrArg List.length h2
   simpa using this
  refine ⟨clock,es.push { key:=ek k,val:=z,born:=clock },clock+1,fun W hW0=>?_,hlook,fun W hW=>?_,fun W v hW=>⟨es.push { key:=ek k,val:=ev v,born:=clock },clock+1,?_,?_⟩⟩
  ·have h1':=hW0.trans h1
   simp[Instr.mapEntry,run_underlying hm,ZA h1',hk.check,hf W,hz,h0,Result.andThen,MapKept.run_setObj_map _ h1',goInt]
   rfl
  ·have hf2:=hk.find k (es.push { key:=ek k,val:=z,born:=clock }).toList (l++[(k,v0)]) W (by simp[h2])
   rw[Z1g v0 hi,Option.map_some,←hsz] at hf2
   simp only[Array.getElem?_toList] at hf2
   rw[show (es.push ({ key:=ek k,val:=z,born:=clock }:MapEntry))[es.size]?=some { key:=ek k,val:=z,born:=clock } from by simp] at hf2
   rw[Array.toList_push] at hf2
   simp[Instr.lookup,run_underlying hm,ZA hW,hk.check,hf2,h0,Result.andThen]
  ·have hidx:(es.push ⟨ek k,z,clock⟩).findIdx? (fun e=>((e.born:Nat):Int) == ((clock:Nat):Int))=some es.size:=by
    rw[UZ]
    exact UP (hpw z) (j:=es.size) (e0:=⟨ek k,z,clock⟩) (by simp)
   have hmod:(es.push ⟨ek k,z,clock⟩).modify es.size (fun e=>{ e with val:=ev v })=es.push ⟨ek k,ev v,clock⟩:=by
    apply Array.ext'
    rw[Array.toList_modify,Array.toList_push,Array.toList_push,←Array.length_toList,T2]
   simp[Instr.entryStore,MapKept.run_getObj_map hW,asInt,asIntOf,hidx,hmod,MapKept.run_setObj_map _ hW,Result.andThen]
   rfl
  ·have:=hp v
   rw[hi] at this
   refine this.of_block ((World.putObj_heap_same (Array.getElem?_eq_some_iff.1 hW).1).trans ?_)
   simp only[Zn,h1]
   rw[Array.getElem?_setIfInBounds_self_of_lt hlt]
 | some i =>
  obtain ⟨u,e1,e2⟩:=V1 hi
  obtain ⟨e0,he0⟩:∃ e,es.toList[i]?=some e:=by
   have:=congrArg (fun l:List Value=>l[i]?) h2
   simp only[List.getElem?_map,e1] at this
   cases hx:es.toList[i]? with
   | none=>rw[hx] at this;cases this
   | some e=>exact ⟨e,rfl⟩
  have hkey:e0.key=ek k:=by
   have:=congrArg (fun l:List Value=>l[i]?) h2
   simpa [e1,he0] using this
  have hval:e0.val=ev u:=by
   have:=congrArg (fun l:List Value=>l[i]?) h3
   simpa [e1,he0] using this
  have hj:es[i]?=some e0:=by simpa using he0
  have hsame:es.modify i (fun e=>{ e with key:=ek k })=es:=by
   apply Array.ext'
   rw[Array.toList_modify,ChangeMaps.modify_eq_set _ _ _ _ he0]
   have:({ e0 with key:=ek k }:MapEntry)=e0:=by rw[←hkey]
   rw[this]
   exact RG _ _ _ he0
  simp only[hi,Option.map_some,Array.getElem?_toList,hj,Option.getD_some] at hf
  refine ⟨e0.born,es,clock,fun W hW0=>?_,hlook,fun W hW=>?_,fun W v hW=>⟨es.modify i (fun e'=>{ e' with key:=ek k,val:=ev v }),clock,?_,?_⟩⟩
  ·have h1':=hW0.trans h1
   simp[Instr.mapEntry,run_underlying hm,ZA h1',hk.check,hf W,hj,hkey,hk.stays,hsame,e2,hval,Result.andThen,MapKept.run_setObj_map _ h1',goInt]
   rfl
  ·have hf2:=hk.find k es.toList l W h2
   rw[hi,Option.map_some] at hf2
   simp only[Array.getElem?_toList,hj,Option.map_some,Option.getD_some] at hf2
   simp[Instr.lookup,run_underlying hm,ZA hW,hk.check,hf2,e2,hval,Result.andThen]
  ·have hidx:es.findIdx? (fun e=>((e.born:Nat):Int) == ((e0.born:Nat):Int))=some i:=by
    rw[UZ]
    exact UP h4 he0
   have hmod:es.modify i (fun e=>{ e with val:=ev v })=es.modify i (fun e'=>{ e' with key:=ek k,val:=ev v }):=by
    apply Array.ext'
    rw[Array.toList_modify,Array.toList_modify,ChangeMaps.modify_eq_set _ _ _ _ he0,ChangeMaps.modify_eq_set _ _ _ _ he0,←hkey]
   simp[Instr.entryStore,MapKept.run_getObj_map hW,asInt,asIntOf,hidx,hmod,MapKept.run_setObj_map _ hW,Result.andThen]
   rfl
  ·have:=hp v
   rw[hi] at this
   refine this.of_block ((World.putObj_heap_same (Array.getElem?_eq_some_iff.1 hW).1).trans ?_)
   simp only[Zn,h1]
   rw[Array.getElem?_setIfInBounds_self_of_lt hlt]
theorem Z0R (w:World) {b:Nat} (hb:b<w.heap.size) (o x:Obj):(w.putObj b o).alloc x=(w.alloc x).putObj b o:=by
 have e:(w.heap.setIfInBounds b o).push x=(w.heap.push x).setIfInBounds b o:=by
  apply Array.ext_getElem?
  intro i
  simp only[Array.getElem?_push,Array.getElem?_setIfInBounds,Array.size_setIfInBounds,Array.size_push]
  by_cases h1:i=w.heap.size
  ·subst h1
   rw[if_pos rfl,if_neg (by omega),if_pos rfl]
  ·by_cases h2:b=i
   ·subst h2
    rw[if_neg h1,if_pos rfl,if_pos hb,if_pos rfl,if_pos (by omega)]
   ·rw[if_neg h1,if_neg h2,if_neg h2,if_neg h1]
 show ({ w with heap:=(w.heap.setIfInBounds b o).push x }:World)={ w with heap:=(w.heap.push x).setIfInBounds b o }
 rw[e]
end
theorem Ul {l:List El} (hl:l.length≤1000) (a:St) (aft:Bool):-1≤Y1 l a aft∧Y1 l a aft≤2002:=by
 unfold Y1
 cases hp:ZM l a with
 | none=>simp
 | some i =>
  have:=U6 hp
  cases aft <;> simp <;> omega
def VO (l:List El) (o:OpD) (i:Int):Bool:=decide (0≤Y1 l o.fr o.fa∧0≤Y1 l o.tr o.ta∧Y1 l o.fr o.fa<2*i+1∧2*i+1<Y1 l o.tr o.ta)
theorem RB (l:List El) (o:OpD) (i:Int):VO l o i=true↔Cov l o i:=by
 unfold VO Cov Y1
 rw[decide_eq_true_eq]
 cases hp:ZM l o.fr with
 | none=>simp
 | some p =>
  cases hq:ZM l o.tr with
  | none=>simp
  | some q =>
   simp only[Option.some.injEq,exists_and_left,exists_eq_left']
   cases o.fa <;> cases o.ta <;> simp <;> omega
theorem Z0r (va:Option Addr) (ca:Nat) (l:List El) (o:OpD) (i:Int) (w:World) (hl:Z4 El.cells 4 w (.slice va l.length ca) l) (hln:l.length≤1000) (hi0:0≤i) (hi1:i≤1000) :
  Calls Tryz.prog 132 #[.slice va l.length ca,.agg (OpD.cells o).toArray,.int .i64 i] w fun e w'=>e=.returned (.bool (VO l o i))∧Below w.heap.size w w':=by
 have hB0:Below w.heap.size w (w.alloc (.cells (OpD.cells o).toArray 181)):=(Below.refl _ _).alloc (Nat.le_refl _) _
 have hl0:=hl.below hB0
 have q20:(w.alloc (.cells (OpD.cells o).toArray 181)).cell? ⟨w.heap.size,20,none⟩=some (.int .i64 o.fr.n):=ZF 20 _ rfl
 have q21:(w.alloc (.cells (OpD.cells o).toArray 181)).cell? ⟨w.heap.size,21,none⟩=some (.int .i64 o.fr.r):=ZF 21 _ rfl
 have q22:(w.alloc (.cells (OpD.cells o).toArray 181)).cell? ⟨w.heap.size,22,none⟩=some (.bool o.fa):=ZF 22 _ rfl
 have q23:(w.alloc (.cells (OpD.cells o).toArray 181)).cell? ⟨w.heap.size,23,none⟩=some (.int .i64 o.tr.n):=ZF 23 _ rfl
 have q24:(w.alloc (.cells (OpD.cells o).toArray 181)).cell? ⟨w.heap.size,24,none⟩=some (.int .i64 o.tr.r):=ZF 24 _ rfl
 have q25:(w.alloc (.cells (OpD.cells o).toArray 181)).cell? ⟨w.heap.size,25,none⟩=some (.bool o.ta):=ZF 25 _ rfl
 obtain ⟨W0,hW0⟩:=Je (w.alloc (.cells (OpD.cells o).toArray 181))
 have HW0:=Lib.hid hW0
 rw[hW0] at hB0 hl0 q20 q21 q22 q23 q24 q25
 clear hW0 hl
 go_enter Tryz.func132,Tryz.ntmps132
 go_upto_region 1 with fail
 rw[HW0.out]
 go_wp2_with fail
 refine (TR va ca l o.fr o.fa W0 hl0 hln).mono ?_
 rintro e w1 ⟨rfl,hb1⟩
 replace q23:=Z0 hb1 q23
 replace q24:=Z0 hb1 q24
 replace q25:=Z0 hb1 q25
 have hl1:=hl0.below hb1
 have hB1:=hB0.trans (hb1.mono hB0.size)
 clear hb1 hB0 hl0 q20 q21 q22
 go_wp2_with fail
 refine (TR va ca l o.tr o.ta w1 hl1 hln).mono ?_
 rintro e w2 ⟨rfl,hb2⟩
 have HB:=Jh (hB1.trans (hb2.mono hB1.size))
 clear hB1 hb2 hl1 q23 q24 q25
 obtain ⟨s0,s1⟩:=Ul hln o.fr o.fa
 obtain ⟨t0,t1⟩:=Ul hln o.tr o.ta
 have hcv:VO l o i=decide (0≤Y1 l o.fr o.fa∧0≤Y1 l o.tr o.ta∧Y1 l o.fr o.fa<2*i+1∧2*i+1<Y1 l o.tr o.ta):=rfl
 generalize Y1 l o.fr o.fa=s at *
 generalize Y1 l o.tr o.ta=t at *
 have HCV:=Lib.hid hcv
 clear hcv
 by_cases h1:0≤s
 ·by_cases h2:0≤t
  ·by_cases h3:s<2*i+1
   ·by_cases h4:2*i+1<t
    ·have HR:Hid (VO l o i=true):=Jh (HCV.out.trans <| decide_eq_true ⟨h1,h2,h3,h4⟩)
     go_wp2_with fail
     go_ret
     exact ⟨by rw[HR.out];rfl,HB.out⟩
    ·have HR:Hid (VO l o i=decide (2*i+1<t)):=Jh (HCV.out.trans (decide_eq_decide.2 ⟨fun h=>h.2.2.2,fun h=>⟨h1,h2,h3,h⟩⟩))
     go_wp2_with fail
     go_ret
     exact ⟨by rw[HR.out];rfl,HB.out⟩
   ·have HR:Hid (VO l o i=false):=Jh (HCV.out.trans <| decide_eq_false (by omega))
    go_wp2_with fail
    go_ret
    exact ⟨by rw[HR.out];rfl,HB.out⟩
  ·have HR:Hid (VO l o i=false):=Jh (HCV.out.trans <| decide_eq_false (by omega))
   go_wp2_with fail
   go_ret
   exact ⟨by rw[HR.out];rfl,HB.out⟩
 ·have HR:Hid (VO l o i=false):=Jh (HCV.out.trans <| decide_eq_false (by omega))
  go_wp2_with fail
  go_ret
  exact ⟨by rw[HR.out];rfl,HB.out⟩
def XB (l:List El) (ms:List OpD) (i:Int) (n:ByteArray) (k:Nat) (c:Int):Prop :=
 (c=-1∧∀ j o',j<k→ms[j]?=some o'→¬ (Cov l o' i∧o'.name=n)) ∨
 ∃ (b:Nat) (o:OpD),c=(b:Int)∧b<k∧ms[b]?=some o∧Cov l o i∧o.name=n∧∀ j o',j<k→ms[j]?=some o'→Cov l o' i→o'.name=n→ZI o'.id o.id∨(o'.id=o.id∧b≤j)
theorem XB.zero (l:List El) (ms:List OpD) (i:Int) (n:ByteArray):XB l ms i n 0 (-1):=.inl ⟨rfl,fun j _ h=>absurd h (by omega)⟩
theorem XB.skip {l:List El} {ms:List OpD} {i:Int} {n:ByteArray} {k:Nat} {c:Int} {x:OpD} (h:XB l ms i n k c) (hx:ms[k]?=some x) (hn:¬ (Cov l x i∧x.name=n)):XB l ms i n (k+1) c:=by
 rcases h with ⟨h1,h2⟩|⟨b,o,h1,h2,h3,h4,h5,h6⟩
 ·refine .inl ⟨h1,fun j o' hj ho=>?_⟩
  by_cases hjk:j<k
  ·exact h2 j o' hjk ho
  ·obtain rfl:j=k:=by omega
   rw[hx] at ho;cases ho;exact hn
 ·refine .inr ⟨b,o,h1,by omega,h3,h4,h5,fun j o' hj ho hc hm=>?_⟩
  by_cases hjk:j<k
  ·exact h6 j o' hjk ho hc hm
  ·obtain rfl:j=k:=by omega
   rw[hx] at ho;cases ho;exact absurd ⟨hc,hm⟩ hn
theorem XB.first {l:List El} {ms:List OpD} {i:Int} {n:ByteArray} {k:Nat} {x:OpD} (h:XB l ms i n k (-1)) (hx:ms[k]?=some x) (hc:Cov l x i) (hn:x.name=n):XB l ms i n (k+1) k:=by
 rcases h with ⟨_,h2⟩|⟨b,o,h1,_⟩
 ·refine .inr ⟨k,x,rfl,by omega,hx,hc,hn,fun j o' hj ho hc' hm=>?_⟩
  by_cases hjk:j<k
  ·exact absurd ⟨hc',hm⟩ (h2 j o' hjk ho)
  ·obtain rfl:j=k:=by omega
   rw[hx] at ho;cases ho;exact .inr ⟨rfl,Nat.le_refl _⟩
 ·omega
theorem XB.more {l:List El} {ms:List OpD} {i:Int} {n:ByteArray} {k b:Nat} {x o:OpD} (h:XB l ms i n k b) (ho:ms[b]?=some o) (hx:ms[k]?=some x) (hc:Cov l x i) (hn:x.name=n) (hlt:ZI o.id x.id):XB l ms i n (k+1) k:=by
 rcases h with ⟨h1,_⟩|⟨b',o',h1,h2,h3,h4,h5,h6⟩
 ·omega
 ·obtain rfl:b=b':=by omega
  rw[ho] at h3;cases h3
  refine .inr ⟨k,x,rfl,by omega,hx,hc,hn,fun j o' hj ho' hc' hm=>?_⟩
  by_cases hjk:j<k
  ·rcases h6 j o' hjk ho' hc' hm with t|⟨t,_⟩
   ·exact .inl (ZC t hlt)
   ·rw[t];exact .inl hlt
  ·obtain rfl:j=k:=by omega
   rw[hx] at ho';cases ho';exact .inr ⟨rfl,Nat.le_refl _⟩
theorem XB.less {l:List El} {ms:List OpD} {i:Int} {n:ByteArray} {k b:Nat} {x o:OpD} (h:XB l ms i n k b) (ho:ms[b]?=some o) (hx:ms[k]?=some x) (hlt:¬ ZI o.id x.id):XB l ms i n (k+1) b:=by
 rcases h with ⟨h1,_⟩|⟨b',o',h1,h2,h3,h4,h5,h6⟩
 ·omega
 ·obtain rfl:b=b':=by omega
  rw[ho] at h3;cases h3
  refine .inr ⟨b,o,rfl,by omega,ho,h4,h5,fun j o' hj ho' hc' hm=>?_⟩
  by_cases hjk:j<k
  ·exact h6 j o' hjk ho' hc' hm
  ·obtain rfl:j=k:=by omega
   rw[hx] at ho';cases ho'
   rcases Y5 x.id o.id with t|t|t
   ·exact .inl t
   ·exact .inr ⟨t,by omega⟩
   ·exact absurd t hlt
def R8 (l:List El) (ms:List OpD) (i:Int) (n:ByteArray) (c:Int):Prop:=(c=-1∧∀ k o,¬ Win l ms i n k o)∨∃ (k:Nat) (o:OpD),c=(k:Int)∧Win l ms i n k o
theorem XB.cnt {l:List El} {ms:List OpD} {i:Int} {n:ByteArray} {c:Int} (h:XB l ms i n ms.length c):R8 l ms i n c:=by
 rcases h with ⟨h1,h2⟩|⟨b,o,h1,h2,h3,h4,h5,h6⟩
 ·exact .inl ⟨h1,fun k o hw=>h2 k o (List.getElem?_eq_some_iff.1 hw.1).1 hw.1 ⟨hw.2.1,hw.2.2.1⟩⟩
 ·exact .inr ⟨b,o,h1,h3,h4,h5,fun j o' hj=>h6 j o' (List.getElem?_eq_some_iff.1 hj).1 hj⟩
theorem R8.eq_iff {l:List El} {ms:List OpD} {i:Int} {n:ByteArray} {c:Int} (h:R8 l ms i n c) {k:Nat} {o:OpD} (ho:ms[k]?=some o):c=(k:Int)↔Win l ms i n k o:=by
 rcases h with ⟨h1,h2⟩|⟨k',o',h1,h2⟩
 ·exact ⟨fun e=>by omega,fun hw=>absurd hw (h2 k o)⟩
 ·constructor
  ·intro e
   obtain rfl:k=k':=by omega
   have:=h2.1
   rw[ho] at this
   cases this
   exact h2
  ·intro hw
   rw[(hw.unique h2).1]
   exact h1
theorem Z3u:XM Tryz.prog 181 26:=⟨fun w=>by kernel_rfl,fun w=>by kernel_rfl⟩
theorem QR (va vb:Option Addr) (ca cb:Nat) (l:List El) (ms:List OpD) (i:Int) (n:ByteArray) (w:World) (hl:Z4 El.cells 4 w (.slice va l.length ca) l) (hm:Z4 OpD.cells 26 w (.slice vb ms.length cb) ms) (hln:l.length≤1000) (hmn:ms.length≤1000) (hi0:0≤i) (hi1:i≤1000) :
  Calls Tryz.prog 107 #[.slice va l.length ca,.slice vb ms.length cb,.int .i64 i,.string n] w fun e w'=>∃ c,e=.returned (.int .i64 c)∧Hid (R8 l ms i n c)∧Below w.heap.size w w':=by
 obtain ⟨_,_,e0,hcap,hmax,hcs⟩:=id hm
 cases e0
 have HC:=Lib.hid hcs
 have HL:=Lib.hid hl
 clear hcs hm hl
 go_enter Tryz.func107,Tryz.ntmps107
 go_wp2_with fail
 go_loopg [9,10] ms.length (fun g av iv wr=>∃ (k:Nat) (c:Int),g=ms.length - k∧k≤ms.length∧av=.int .i64 c∧iv=.int .i64 k∧Hid (XB l ms i n k c)∧Below w.heap.size w wr)
 case atStart=>exact ⟨0,-1,by omega,by omega,rfl,rfl,Jh (XB.zero l ms i n),Below.refl _ _⟩
 case round =>
  obtain ⟨k,c,hg,hk,rfl,rfl,hBe,hB⟩:=hrel
  have HB:=Lib.hid hB
  have HG:=Lib.hid hg
  by_cases hkl:k<ms.length
  ·obtain ⟨x,hx⟩:∃ x,ms[k]?=some x:=⟨_,List.getElem?_eq_getElem hkl⟩
   obtain ⟨b,o,rfl,hcc⟩:=HC.out (by intro e;rw[e] at hx;simp at hx)
   have hcell:∀ {q:Nat} {y:OpD},ms[q]?=some y→∀ j u,(OpD.cells y)[j]?=some u→wr.cell? ⟨b,o+q*26+j,none⟩=some u:=fun {q y} hy j u h=>by
    have h1:=hcc q y hy j u h
    exact (World.cell?_of_block (w:=w) (hB.block b (Zj h1))).trans h1
   have HLD:=Jh (V7 (P:=Tryz.prog) Z3u (OpD.len x) (hcell hx))
   have hkk:(k:Int)<(ms.length:Int):=by omega
   have hlr:=HL.out.of (fun b o u h=>(World.cell?_of_block (w:=w) (hB.block b (Zj h))).trans h)
   have HCC:=Jh (fun (q:Nat) (y:OpD)=>@hcell q y)
   have HX:=Lib.hid hx
   clear hcc hcell hB hg
   go_wp2_with ((with_reducible_and_instances refine XE (o:=⟨some 22,_,_,_,_,_⟩) (x:=.tmp 21) ?_ ?_ ?_ HLD.out ?_);rfl;rfl;rfl)
   refine (Z0r va ca l x i wr hlr hln hi0 hi1).mono ?_
   rintro e w1 ⟨rfl,hb1⟩
   have hB1:=HB.out.trans (hb1.mono HB.out.size)
   have HB1:=Lib.hid hB1
   have hcell1:∀ {q:Nat} {y:OpD},ms[q]?=some y→∀ j u,(OpD.cells y)[j]?=some u→w1.cell? ⟨b,o+q*26+j,none⟩=some u:=fun {q y} hy j u h=>Z0 hb1 (HCC.out q y hy j u h)
   have x0:w1.cell? ⟨b,o+k*26,none⟩=some (.int .i64 x.id.n):=hcell1 hx 0 _ rfl
   have x1:w1.cell? ⟨b,o+k*26+1,none⟩=some (.int .i64 x.id.r):=hcell1 hx 1 _ rfl
   have x18:w1.cell? ⟨b,o+k*26+18,none⟩=some (.string x.name):=hcell1 hx 18 _ rfl
   have HC1:=Jh (fun (q:Nat) (y:OpD)=>@hcell1 q y)
   clear hcell1 hb1 hB1 hlr HCC HLD hx
   cases hcov:VO l x i with
   | false =>
    have HN:Hid (¬ (Cov l x i∧x.name=n)):=Jh (fun h=>by rw[(RB l x i).2 h.1] at hcov;cases hcov)
    clear hcov
    go_upto_region 6 with fail
    go_quiet (fail)
    go_wp2_with fail
    go_roundg (ms.length - (k+1))
    case measure=>rw[HG.out];omega
    case rel=>exact ⟨k+1,c,rfl,by omega,rfl,by simp,Jh (hBe.out.skip HX.out HN.out),below_drewN HB1.out _⟩
   | true =>
    have hcv:=(RB l x i).1 hcov
    clear hcov
    by_cases hn:x.name=n
    ·rw[hn] at x18
     have HN:=Lib.hid hn
     have HCV:=Lib.hid hcv
     clear hn hcv
     by_cases hc0:c<0
     ·have hc1:c=-1:=by
       rcases hBe.out with ⟨h,_⟩|⟨q,_,h,_⟩
       ·exact h
       ·omega
      subst hc1
      clear hc0
      go_upto_region 6 with fail
      go_quiet (fail)
      go_wp2_with fail
      go_roundg (ms.length - (k+1))
      case measure=>rw[HG.out];omega
      case rel=>exact ⟨k+1,k,rfl,by omega,rfl,by simp,Jh (hBe.out.first HX.out HCV.out HN.out),below_drewN HB1.out _⟩
     ·obtain ⟨q,y,rfl,hqk,hy⟩:∃ (q:Nat) (y:OpD),c=(q:Int)∧q<k∧ms[q]?=some y:=by
       rcases hBe.out with ⟨h,_⟩|⟨q,y,h1,h2,h3,_⟩
       ·omega
       ·exact ⟨q,y,h1,h2,h3⟩
      have y0:w1.cell? ⟨b,o+q*26,none⟩=some (.int .i64 y.id.n):=HC1.out q y hy 0 _ rfl
      have y1:w1.cell? ⟨b,o+q*26+1,none⟩=some (.int .i64 y.id.r):=HC1.out q y hy 1 _ rfl
      have hqq:(q:Int)<(ms.length:Int):=by omega
      have HY:=Lib.hid hy
      clear hy
      go_upto_region 6 with fail
      by_cases hgt:0<Yc ⟨x.id.n,x.id.r⟩ ⟨y.id.n,y.id.r⟩
      ·have HLT:Hid (ZI y.id x.id):=Jh ((UU x.id y.id).1 hgt)
       go_region_held3 (fun W=>W.cell? ⟨b,o+k*26,none⟩=some (.int .i64 x.id.n)∧W.cell? ⟨b,o+k*26+1,none⟩=some (.int .i64 x.id.r)∧W.cell? ⟨b,o+k*26+18,none⟩=some (.string n)∧W.cell? ⟨b,o+q*26,none⟩=some (.int .i64 y.id.n)∧W.cell? ⟨b,o+q*26+1,none⟩=some (.int .i64 y.id.r)) (first|exact ⟨x0,x1,x18,y0,y1⟩|exact ⟨Z0 b5 x0,Z0 b5 x1,Z0 b5 x18,Z0 b5 y0,Z0 b5 y1⟩) ((go_at_call 23;((with_reducible refine (X1 _ _ _ _ _).mono ?_);rintro e w5 ⟨rfl,b5⟩;simp only[ZR,ZJ] at b5)))
       all_goals
        go_wp2_with fail
        go_roundg (ms.length - (k+1))
        case measure=>rw[HG.out];omega
        case rel=>exact ⟨k+1,k,rfl,by omega,rfl,by simp,Jh (hBe.out.more HY.out HX.out HCV.out HN.out HLT.out),by first|exact HB1.out.trans (b5.mono HB1.out.size)|exact (HB1.out.trans (b5.mono HB1.out.size)).drew⟩
      ·have HLT:Hid (¬ ZI y.id x.id):=Jh (fun h=>hgt ((UU x.id y.id).2 h))
       go_region_held3 (fun W=>W.cell? ⟨b,o+k*26,none⟩=some (.int .i64 x.id.n)∧W.cell? ⟨b,o+k*26+1,none⟩=some (.int .i64 x.id.r)∧W.cell? ⟨b,o+k*26+18,none⟩=some (.string n)∧W.cell? ⟨b,o+q*26,none⟩=some (.int .i64 y.id.n)∧W.cell? ⟨b,o+q*26+1,none⟩=some (.int .i64 y.id.r)) (first|exact ⟨x0,x1,x18,y0,y1⟩|exact ⟨Z0 b5 x0,Z0 b5 x1,Z0 b5 x18,Z0 b5 y0,Z0 b5 y1⟩) ((go_at_call 23;((with_reducible refine (X1 _ _ _ _ _).mono ?_);rintro e w5 ⟨rfl,b5⟩;simp only[ZR,ZJ] at b5)))
       all_goals
        go_wp2_with fail
        go_roundg (ms.length - (k+1))
        case measure=>rw[HG.out];omega
        case rel=>exact ⟨k+1,q,rfl,by omega,rfl,by simp,Jh (hBe.out.less HY.out HX.out HLT.out),by first|exact HB1.out.trans (b5.mono HB1.out.size)|exact (HB1.out.trans (b5.mono HB1.out.size)).drew⟩
    ·have hn1:(x.name.toList == n.toList)=false:=by
      cases h:(x.name.toList == n.toList) with
      | false=>rfl
      | true=>exact absurd ((ZS _ _).1 (eq_of_beq h)) hn
     have hn2:(x.name == n)=false:=by rw[Xc];simp[hn]
     have HN:Hid (¬ (Cov l x i∧x.name=n)):=Jh (fun h=>hn h.2)
     clear hn hcv
     go_upto_region 6 with fail
     go_quiet (fail)
     go_wp2_with fail
     go_roundg (ms.length - (k+1))
     case measure=>rw[HG.out];omega
     case rel=>exact ⟨k+1,c,rfl,by omega,rfl,by simp,Jh (hBe.out.skip HX.out HN.out),below_drewN HB1.out _⟩
  ·obtain rfl:k=ms.length:=by omega
   clear hB hg
   go_wp2_with fail
   go_ret
   exact ⟨c,rfl,Lib.hid hBe.out.cnt,HB.out⟩
structure XF (l:List El) (ms:List OpD) (i:Int) (k:Nat) (O:List Atr):Prop where
 rising:O.Pairwise (fun x y=>x.name.toList<y.name.toList)
 mem:∀ a,a∈O↔a.value≠⟨#[]⟩∧∃ q o,q<k∧Win l ms i a.name q o∧a.value=o.value
theorem XF.zero (l:List El) (ms:List OpD) (i:Int):XF l ms i 0 []:=⟨List.Pairwise.nil,fun a=>by simp⟩
theorem XF.skip {l:List El} {ms:List OpD} {i:Int} {k:Nat} {O:List Atr} {x:OpD} (h:XF l ms i k O) (hx:ms[k]?=some x) (hn:¬ (Win l ms i x.name k x∧x.value≠⟨#[]⟩)):XF l ms i (k+1) O:=by
 refine ⟨h.rising,fun a=>?_⟩
 rw[h.mem a]
 constructor
 ·rintro ⟨hv,q,o,hq,r⟩;exact ⟨hv,q,o,by omega,r⟩
 ·rintro ⟨hv,q,o,hq,hw,e⟩
  by_cases hqk:q<k
  ·exact ⟨hv,q,o,hqk,hw,e⟩
  ·obtain rfl:q=k:=by omega
   have h1:=hw.1
   rw[hx] at h1
   cases h1
   have h2:=hw.2.2.1
   exact absurd ⟨by rw[h2];exact hw,by rw[←e];exact hv⟩ hn
theorem XF.fresh {l:List El} {ms:List OpD} {i:Int} {k:Nat} {O:List Atr} {x:OpD} (h:XF l ms i k O) (hw:Win l ms i x.name k x):∀ a∈O,a.name.toList≠x.name.toList:=by
 intro a ha e
 obtain ⟨_,q,o,hq,hw',_⟩:=(h.mem a).1 ha
 rw[(ZS _ _).1 e] at hw'
 have:=(hw.unique hw').1
 omega
theorem XF.ins {l:List El} {ms:List OpD} {i:Int} {k:Nat} {O:List Atr} {x:OpD} (h:XF l ms i k O) (hw:Win l ms i x.name k x) (hv:x.value≠⟨#[]⟩) {j:Nat} (hj:j≤O.length)
  (hd:∀ y∈O.drop j,x.name.toList<y.name.toList) (ht:∀ y∈O.take j,y.name.toList<x.name.toList):XF l ms i (k+1) (Y7 O ⟨x.name,x.value⟩ j):=by
 refine ⟨UH hj h.rising hd ht,fun a=>?_⟩
 rw[Ss,h.mem a]
 constructor
 ·rintro (rfl|⟨hv',q,o,hq,r⟩)
  ·exact ⟨hv,k,x,by omega,hw,rfl⟩
  ·exact ⟨hv',q,o,by omega,r⟩
 ·rintro ⟨hv',q,o,hq,hw',e⟩
  by_cases hqk:q<k
  ·exact .inr ⟨hv',q,o,hqk,hw',e⟩
  ·obtain rfl:q=k:=by omega
   left
   have h1:=hw'.1
   rw[hw.1] at h1
   cases h1
   obtain ⟨an,av⟩:=a
   have h2:=hw'.2.2.1
   simp only at h2 e
   rw[e,h2]
theorem XF.hasL {l:List El} {ms:List OpD} {i:Int} {O:List Atr} (h:XF l ms i ms.length O):U2 l ms i O:=by
 refine ⟨h.rising,fun a=>?_⟩
 rw[h.mem a]
 constructor
 ·rintro ⟨hv,q,o,_,hw,e⟩;exact ⟨hv,q,o,hw,e⟩
 ·rintro ⟨hv,q,o,hw,e⟩;exact ⟨hv,q,o,(List.getElem?_eq_some_iff.1 hw.1).1,hw,e⟩
theorem Z28 (va vb:Option Addr) (ca cb:Nat) (l:List El) (ms:List OpD) (i:Int) (w:World) (hl:Z4 El.cells 4 w (.slice va l.length ca) l) (hm:Z4 OpD.cells 26 w (.slice vb ms.length cb) ms) (hln:l.length≤1000) (hmn:ms.length≤1000) (hi0:0≤i) (hi1:i≤1000) :
  Calls Tryz.prog 83 #[.slice va l.length ca,.slice vb ms.length cb,.int .i64 i] w fun e w'=>∃ u O,e=.returned u∧Own Atr.cells 2 73 w.heap.size w' u O∧Hid (U2 l ms i O)∧Below w.heap.size w w':=by
 obtain ⟨i0,hi,hz0,hz1',hz2⟩:=info_parts Wq
 obtain ⟨_,_,e0,hcap,hmax,hcs⟩:=id hm
 cases e0
 have HC:=Lib.hid hcs
 have HL:=Lib.hid hl
 have HM:=Lib.hid hm
 clear hcs hm hl
 go_enter Tryz.func83,Tryz.ntmps83
 go_wp2_with fail
 go_loopg [7,8] ms.length (fun g s iv wx=>∃ (k:Nat) (O:List Atr),g=ms.length - k∧k≤ms.length∧iv=.int .i64 k∧O.length≤k∧Hid (XF l ms i k O)∧Own Atr.cells 2 73 w.heap.size wx s O∧Below w.heap.size w wx)
 case atStart=>exact ⟨0,[],by omega,by omega,rfl,Nat.le_refl _,Jh (XF.zero l ms i),Own.nil,Below.refl _ _⟩
 case round =>
  obtain ⟨k,O,hg,hk,rfl,hol,hgath,hown,hB⟩:=hrel
  have HB:=Lib.hid hB
  have HG:=Lib.hid hg
  by_cases hlt:k<ms.length
  ·obtain ⟨x,hx⟩:∃ x,ms[k]?=some x:=⟨_,List.getElem?_eq_getElem hlt⟩
   obtain ⟨b,o,rfl,hcc⟩:=HC.out (by intro e;rw[e] at hx;simp at hx)
   have hkp:∀ {b o u},w.cell? ⟨b,o,none⟩=some u→wr.cell? ⟨b,o,none⟩=some u:=fun h=>(World.cell?_of_block (w:=w) (hB.block _ (Zj h))).trans h
   have x18:wr.cell? ⟨b,o+k*26+18,none⟩=some (.string x.name):=hkp (hcc k x hx 18 _ rfl)
   have x19:wr.cell? ⟨b,o+k*26+19,none⟩=some (.string x.value):=hkp (hcc k x hx 19 _ rfl)
   have hlr:=HL.out.of (fun b o u h=>hkp h)
   have hmr:=HM.out.of (fun b o u h=>hkp h)
   have hkk:(k:Int)<(ms.length:Int):=by omega
   have HX:=Lib.hid hx
   clear hcc hB hg hx hkp
   go_wp2_with fail
   refine (QR va (some ⟨b,o,none⟩) ca cb l ms i x.name wr hlr hmr hln hmn hi0 hi1).mono ?_
   rintro e w1 ⟨c,rfl,hcnt,hb1⟩
   have y18:=Z0 hb1 x18
   have y19:=Z0 hb1 x19
   have hown1:=hown.ext (Ext.of_below (S:=fun _=>False) hb1) (fun _ _ h=>h)
   have hB1:=HB.out.trans (hb1.mono HB.out.size)
   have hcw:=hcnt.out.eq_iff HX.out
   have HCW:=Lib.hid hcw
   clear x18 x19 hown hb1 hlr hmr hcnt hcw
   by_cases hck:c=(k:Int)
   ·subst hck
    have HW:Hid (Win l ms i x.name k x):=Jh (HCW.out.1 rfl)
    by_cases hv:x.value=⟨#[]⟩
    ·have HN:Hid (¬ (Win l ms i x.name k x∧x.value≠⟨#[]⟩)):=Jh (fun h=>h.2 hv)
     rw[hv] at y19
     clear hv
     go_wp2_with fail
     go_roundg (ms.length - (k+1))
     case measure=>rw[HG.out];omega
     case rel=>exact ⟨k+1,O,rfl,by omega,by simp,by omega,Jh (hgath.out.skip HX.out HN.out),hown1,hB1⟩
    ·have hv1:(x.value.toList == [])=false:=by
      cases h:(x.value.toList == []) with
      | false=>rfl
      | true=>exact absurd ((ZS x.value ⟨#[]⟩).1 (by simpa using eq_of_beq h)) hv
     have hv2:(x.value == ⟨#[]⟩)=false:=by rw[Xc];simp[hv]
     have HV:=Lib.hid hv
     have HLN:=Jh (hgath.out.fresh HW.out)
     clear hv
     obtain ⟨oa,oc,rfl,hocap,homax,hocs⟩:=hown1.slice (fun _=>rfl)
     clear hocs
     go_upto_region 6 with fail
     unfold maxLen at homax
     have hown5:=hown1.alloc (.cells #[.string x.name,.string x.value] 73)
     have hB5:=hB1.alloc hB1.size (.cells #[.string x.name,.string x.value] 73)
     have hnb:∀ j u,(Atr.cells ⟨x.name,x.value⟩)[j]?=some u→(w1.alloc (.cells #[.string x.name,.string x.value] 73)).cell? ⟨w1.heap.size,j,none⟩=some u:=fun j u h=>ZF j u h
     have HOW:=Lib.hid hown5
     have HNB:=Lib.hid hnb
     have hs5:=hB5.size
     have hbl:b<w1.heap.size:=Zj y18
     clear hnb
     go_region_law (refine V2 (v:=.slice oa O.length oc) (l:=O) rfl (.tmp 36) (.tmp 48) 24 rfl i0 (.agg #[.string ⟨#[]⟩,.string ⟨#[]⟩]) 32 Tryz.underlying24 hi hz0 hz1' hz2 rfl (by omega) (fun _=>rfl) (fun x u hu=>by simp[Atr.cells] at hu;rcases hu with rfl|rfl <;> rfl) rfl HOW.out ⟨x.name,x.value⟩ w1.heap.size 1 rfl HNB.out (by unfold maxLen;omega) (by omega) hs5 ?_;intro v' w6 hown6 hx6)
     all_goals
      have hne:∀ b,(Value.slice oa O.length oc).ownBlock=some b→w.heap.size≤b:=fun b hb=>(hown5.blk b hb).1
      have hB6:Below w.heap.size w w6:=by
       refine Ext.new ?_ hx6 (fun b hb _ e=>by have:=hne _ e;omega) hs5
       first|exact hB5|exact hB5.drew
      obtain ⟨g6,cp6,rfl,hg6⟩:∃ g c,v'=.slice (some ⟨g,0,none⟩) (O.length+1) c∧w.heap.size≤g:=by
       rcases hown6.eq_slice with ⟨_,h⟩|⟨g,c,h,h2,_⟩
       ·simp at h
       ·exact ⟨g,c,by simpa using h,h2⟩
      clear HOW HNB hs5 hbl hown1 hB1 y18 y19
      clear hx6 hown5 hB5 hne HC
      have hins:O++[⟨x.name,x.value⟩]=Y7 O ⟨x.name,x.value⟩ O.length:=by simp[Y7]
      rw[hins] at hown6
      clear hins
      go_wp2_with fail
      go_loopg [9] O.length (fun g kk wz=>∃ j:Nat,g=j∧j≤O.length∧kk=.int .i64 j∧Hid (∀ y∈O.drop j,x.name.toList<y.name.toList)∧Own Atr.cells 2 73 w.heap.size wz (.slice (some ⟨g6,0,none⟩) (O.length+1) cp6) (Y7 O ⟨x.name,x.value⟩ j)∧Below w.heap.size w wz)
      case atStart=>exact ⟨O.length,rfl,Nat.le_refl _,by go_num,fun y hy=>by simp at hy,hown6,hB6⟩
      case round =>
       obtain ⟨j,hjg,hj,rfl,hdrop,hown7,hB7⟩:=hrel
       have HJG:=Lib.hid hjg
       clear hjg
       obtain ⟨-,hcap7,hmax7,hg7,hcells7⟩:=Vs hown7
       unfold maxLen at hmax7
       cases j with
       | zero =>
        clear hcells7
        go_wp2_with fail
        go_quiet (fail)
        go_wp2_with fail
        go_roundg (ms.length - (k+1))
        case measure=>rw[HG.out];omega
        case rel =>
         refine ⟨k+1,_,rfl,hlt,by simp,?_,Jh (hgath.out.ins HW.out HV.out (j:=0) (Nat.zero_le _) hdrop.out (fun y hy=>by simp at hy)),?_,below_drewN hB7 _⟩
         ·rw[WX _ _ _ (Nat.zero_le _)];omega
         ·exact hown7
       | succ j =>
        obtain ⟨c,hc⟩:∃ c,O[j]?=some c:=⟨_,List.getElem?_eq_getElem hj⟩
        obtain ⟨s0,s1,s2,s3⟩:=hcells7 (j+1) _ (Ug O _ (j+1) hj)
        obtain ⟨s4,s5,s6,s7⟩:=hcells7 j c ((WD O _ j hj).trans hc)
        simp only at s0 s1
        have HC:=Lib.hid hc
        have hne:¬ g6=wr.heap.size:=by omega
        clear hcells7 hc
        by_cases hcl:x.name.toList<c.name.toList
        ·have hcl':Op.bytesLess x.name.toList c.name.toList=true:=by rw[bytesLess_eq];simpa using hcl
         have HCL:=Lib.hid hcl
         clear hcl
         go_wp2_with fail
         go_quiet (fail)
         have hbq:Below wr.heap.size wr (wr.drewN nq):=below_drewN (Below.refl _ _) _
         have hown8:=hown7.ext (Ext.of_below (S:=fun _=>False) hbq) (fun _ _ h=>h)
         have hB8:Below w.heap.size w (wr.drewN nq):=below_drewN hB7 _
         clear hbq s0 s1 s2 s3 s4 s5 s6 s7 hg7 hne
         generalize wr.drewN nq=wq at *
         obtain ⟨-,-,-,hg7,hcells7⟩:=Vs hown8
         obtain ⟨s0,s1,s2,s3⟩:=hcells7 (j+1) _ (Ug O _ (j+1) hj)
         obtain ⟨s4,s5,s6,s7⟩:=hcells7 j c ((WD O _ j hj).trans HC.out)
         simp only at s0 s1
         have hne:¬ g6=wq.heap.size:=by omega
         clear hcells7
         go_wp2_with fail
         go_roundg j
         case measure=>rw[HJG.out];omega
         case rel =>
          have hs8:=hB8.size
          refine ⟨j,rfl,by omega,by go_num,?_,(Ra hown8 HC.out).alloc _,?_⟩
          ·intro y hy
           obtain ⟨hj',hc'⟩:=List.getElem?_eq_some_iff.1 HC.out
           rw[List.drop_eq_getElem_cons hj',hc'] at hy
           rcases List.mem_cons.1 hy with rfl|hy
           ·exact HCL.out
           ·exact hdrop.out y hy
          ·exact ((((hB8.setCell (by simp;omega) _).setCell (by simp;omega) _).setCell (by simp;omega) _).setCell (by simp;omega) _).alloc (by simp;omega) _
        ·have hcl':Op.bytesLess x.name.toList c.name.toList=false:=by rw[bytesLess_eq];simpa using hcl
         have HCL:=Lib.hid hcl
         clear hcl
         go_wp2_with fail
         go_quiet (fail)
         go_wp2_with fail
         go_roundg (ms.length - (k+1))
         case measure=>rw[HG.out];omega
         case rel =>
          refine ⟨k+1,_,rfl,hlt,by simp,?_,Jh (hgath.out.ins HW.out HV.out (j:=j+1) hj hdrop.out ?_),?_,below_drewN hB7 _⟩
          ·rw[WX _ _ _ hj];omega
          ·have hcx:c.name.toList<x.name.toList:=by
            refine Classical.byContradiction fun h=>HLN.out c (List.mem_of_getElem? HC.out) (WI _ _ h HCL.out)
           intro y hy
           obtain ⟨hj',hc'⟩:=List.getElem?_eq_some_iff.1 HC.out
           rw[List.take_succ_eq_append_getElem hj',hc'] at hy
           rcases List.mem_append.1 hy with hy|hy
           ·have hp:=hgath.out.rising
            rw[←List.take_append_drop j O,List.pairwise_append] at hp
            exact List.lt_trans (hp.2.2 y hy c (by rw[List.drop_eq_getElem_cons hj',hc'];simp)) hcx
           ·rw[List.mem_singleton.1 hy];exact hcx
          ·exact hown7
   ·have HN:Hid (¬ (Win l ms i x.name k x∧x.value≠⟨#[]⟩)):=Jh (fun h=>hck (HCW.out.2 h.1))
    clear HCW
    go_wp2_with fail
    go_roundg (ms.length - (k+1))
    case measure=>rw[HG.out];omega
    case rel=>exact ⟨k+1,O,rfl,by omega,by simp,by omega,Jh (hgath.out.skip HX.out HN.out),hown1,hB1⟩
  ·obtain rfl:k=ms.length:=by omega
   clear hB hg
   go_wp2_with fail
   go_ret
   exact ⟨_,O,rfl,hown,Lib.hid hgath.out.hasL,HB.out⟩
end Go.Proofs.YtlgipkemoldckaaGreatDoor
namespace Go.Proofs.YtlgipkemoldckaaGreatDoor
open Go.RowKit Go.Sort Go.Shelf
theorem QP (F:List Zc) (i:Int):((Yp F i).map (·.1)).Nodup:=by
 unfold Yp
 have:∀ (F:List Zc) (h:List (ByteArray × Atr)),(h.map (·.1)).Nodup→((F.foldl (fun h x=>if x.lo≤i∧i<x.hi then Zx h x.op.name (⟨x.op.name,x.op.value⟩:Atr) else h) h).map (·.1)).Nodup:=by
  intro F
  induction F with
  | nil=>intro h hh;exact hh
  | cons x F ih =>
   intro h hh
   rw[List.foldl_cons]
   refine ih _ ?_
   split
   ·exact TF h _ _ hh
   ·exact hh
 exact this F [] List.nodup_nil
end Go.Proofs.YtlgipkemoldckaaGreatDoor
namespace Go.Proofs.YtlgipkemoldckaaGreatDoor
open Go.RowKit
theorem U3 {α:Type} {a b:List α} (hl:a.length=b.length) {k:Nat} (hk:∀ j,j<k→a[j]?=b[j]?) (h:a.length≤k):a=b :=
 List.ext_getElem? fun j=>by
  by_cases hj:j<k
  ·exact hk j hj
  ·rw[List.getElem?_eq_none (by omega),List.getElem?_eq_none (by omega)]
theorem Uh (va vb:Value) (la lb:List Atr) (w:World) (ha:Z4 Atr.cells 2 w va la) (hb:Z4 Atr.cells 2 w vb lb) :
  Calls Tryz.prog 33 #[va,vb] w fun e w'=>e=.returned (.bool (decide (la=lb)))∧Below w.heap.size w w':=by
 obtain ⟨aa,capa,rfl,hca,hma,hcella⟩:=ha
 obtain ⟨ab,capb,rfl,hcb,hmb,hcellb⟩:=hb
 unfold maxLen at hma hmb
 by_cases hl:la.length=lb.length
 ·have HL:=Lib.hid hl
  have hl1:(((la.length:Nat):Int) != ((lb.length:Nat):Int))=false:=by simp[hl]
  clear hl
  go_enter Tryz.func33,Tryz.ntmps33
  go_wp2_with fail
  go_loopg [5] la.length (fun g i wr=>∃ k:Nat,g=la.length - k∧k≤la.length∧i=.int .i64 k∧Hid (∀ j,j<k→la[j]?=lb[j]?)∧Below w.heap.size w wr)
  case atStart=>exact ⟨0,rfl,Nat.zero_le _,rfl,fun j hj=>absurd hj (by omega),Below.refl _ _⟩
  case round =>
   obtain ⟨k,hg,hk,rfl,hpre,hB⟩:=hrel
   by_cases hlt:k<la.length
   ·obtain ⟨x,hx⟩:∃ x,la[k]?=some x:=⟨_,List.getElem?_eq_getElem hlt⟩
    obtain ⟨y,hy⟩:∃ y,lb[k]?=some y:=⟨_,List.getElem?_eq_getElem (by rw[←HL.out];exact hlt)⟩
    obtain ⟨b1,o1,rfl,hc1⟩:=hcella (by intro e;rw[e] at hlt;simp at hlt)
    obtain ⟨b2,o2,rfl,hc2⟩:=hcellb (by intro e;rw[e] at hy;simp at hy)
    have c10:wr.cell? ⟨b1,o1+k*2,none⟩=some (.string x.name):=Z0 hB (hc1 k x hx 0 _ rfl)
    have c11:wr.cell? ⟨b1,o1+k*2+1,none⟩=some (.string x.value):=Z0 hB (hc1 k x hx 1 _ rfl)
    have c20:wr.cell? ⟨b2,o2+k*2,none⟩=some (.string y.name):=Z0 hB (hc2 k y hy 0 _ rfl)
    have c21:wr.cell? ⟨b2,o2+k*2+1,none⟩=some (.string y.value):=Z0 hB (hc2 k y hy 1 _ rfl)
    have hlt2:k<lb.length:=(List.getElem?_eq_some_iff.1 hy).1
    have HX:=Lib.hid hx
    have HY:=Lib.hid hy
    have HG:=Lib.hid hg
    clear hx hy hg hcella hcellb hc1 hc2
    by_cases hxy:x=y
    ·subst hxy
     go_wp2_with fail
     go_region_held3 (fun W=>W.cell? ⟨b1,o1+k*2,none⟩=some (.string x.name)∧W.cell? ⟨b1,o1+k*2+1,none⟩=some (.string x.value)∧W.cell? ⟨b2,o2+k*2,none⟩=some (.string x.name)∧W.cell? ⟨b2,o2+k*2+1,none⟩=some (.string x.value)) (exact ⟨c10,c11,c20,c21⟩) (fail)
     go_wp2_with fail
     go_roundg (la.length - (k+1))
     case measure=>rw[HG.out];omega
     case rel =>
      refine ⟨k+1,rfl,hlt,by go_num,fun j hj=>?_,hB.drew⟩
      by_cases hjk:j<k
      ·exact hpre.out j hjk
      ·have:j=k:=by omega
       subst this
       rw[HX.out,HY.out]
    ·have hres:decide (la=lb)=false:=by
      rw[decide_eq_false_iff_not]
      intro e
      rw[e,HY.out] at HX
      exact hxy (Option.some.inj HX.out).symm
     have HR:=Lib.hid hres
     clear hres
     by_cases h1:x.name.toList=y.name.toList
     ·have h2:¬ x.value.toList=y.value.toList:=fun h2=>hxy (by
       obtain ⟨xn,xv⟩:=x
       obtain ⟨yn,yv⟩:=y
       have e1:=(ZS _ _).1 h1
       have e2:=(ZS _ _).1 h2
       simp only at e1 e2
       rw[e1,e2])
      go_wp2_with fail
      go_region_held3 (fun W=>W.cell? ⟨b1,o1+k*2,none⟩=some (.string x.name)∧W.cell? ⟨b1,o1+k*2+1,none⟩=some (.string x.value)∧W.cell? ⟨b2,o2+k*2,none⟩=some (.string y.name)∧W.cell? ⟨b2,o2+k*2+1,none⟩=some (.string y.value)) (exact ⟨c10,c11,c20,c21⟩) (fail)
      go_wp2_with fail
      go_ret
      exact ⟨by rw[HR.out];rfl,hB.drew⟩
     ·go_wp2_with fail
      go_region_held3 (fun W=>W.cell? ⟨b1,o1+k*2,none⟩=some (.string x.name)∧W.cell? ⟨b1,o1+k*2+1,none⟩=some (.string x.value)∧W.cell? ⟨b2,o2+k*2,none⟩=some (.string y.name)∧W.cell? ⟨b2,o2+k*2+1,none⟩=some (.string y.value)) (exact ⟨c10,c11,c20,c21⟩) (fail)
      go_wp2_with fail
      go_ret
      exact ⟨by rw[HR.out];rfl,hB.drew⟩
   ·have hres:decide (la=lb)=true:=by
     rw[decide_eq_true_eq]
     exact U3 HL.out hpre.out (by omega)
    have HR:=Lib.hid hres
    clear hres
    go_wp2_with fail
    go_ret
    exact ⟨by rw[HR.out];rfl,hB⟩
 ·have hres:decide (la=lb)=false:=by
   rw[decide_eq_false_iff_not]
   intro e
   exact hl (by rw[e])
  rw[hres]
  clear hres
  have hl1:(((la.length:Nat):Int) != ((lb.length:Nat):Int))=true:=by simp;omega
  go_enter Tryz.func33,Tryz.ntmps33
  go_wp2_with fail
  go_ret
  exact ⟨rfl,Below.refl _ _⟩
theorem Z4.drew {α:Type} {ea:α→List Value} {k:Nat} {w:World} {v:Value} {l:List α} (h:Z4 ea k w v l):Z4 ea k w.drew v l:=h
noncomputable def VB (l:List El) (ms:List OpD) (k:Nat):List Atr:=@dite _ (∃ al,U2 l ms (k:Int) al) (Classical.propDecidable _) (fun h=>Classical.choose h) (fun _=>[])
theorem RH {l:List El} {ms:List OpD} {k:Nat} {al:List Atr} (h:U2 l ms k al):VB l ms k=al:=by
 have h1:∃ al,U2 l ms (k:Int) al:=⟨al,h⟩
 unfold VB
 rw[dif_pos h1]
 exact (Classical.choose_spec h1).unique h
def chB (c:Int):ByteArray:=⟨#[UInt8.ofNat (c % 256).toNat]⟩
theorem TM (b:ByteArray):(⟨#[]⟩:ByteArray)++b=b:=by
 apply ByteArray.ext
 rw[ByteArray.data_append]
 simp
abbrev Pcs:=List (ByteArray × List Atr)
def YL (x:El) (al:List Atr) (P:Pcs):Pcs :=
 if x.ch=0∨x.gone=true then P
 else match P.getLast? with
  | some q=>if q.2=al then P.dropLast++[(q.1++chB x.ch,al)] else P++[(chB x.ch,al)]
  | none=>P++[(chB x.ch,al)]
noncomputable def Xg (l:List El) (ms:List OpD) (f:Nat):Nat→Pcs
 | 0=>[]
 | n+1=>match l[f+n]? with
  | some x=>YL x (VB l ms (f+n)) (Xg l ms f n)
  | none=>Xg l ms f n
theorem SH {l:List El} {ms:List OpD} {f n:Nat} {x:El} (hx:l[f+n]?=some x):Xg l ms f (n+1)=YL x (VB l ms (f+n)) (Xg l ms f n):=by
 rw[Xg,hx]
theorem Tb {x:El} {al:List Atr} {P:Pcs} (h:x.ch=0∨x.gone=true):YL x al P=P:=if_pos h
theorem UL {x:El} {al:List Atr} (h:¬ (x.ch=0∨x.gone=true)):YL x al []=[(chB x.ch,al)]:=by
 unfold YL
 rw[if_neg h]
 rfl
theorem Tf {x:El} {t:ByteArray} {al:List Atr} {P:Pcs} (h:¬ (x.ch=0∨x.gone=true)):YL x al (P++[(t,al)])=P++[(t++chB x.ch,al)]:=by
 unfold YL
 rw[if_neg h]
 simp
theorem TE {x:El} {t:ByteArray} {al bl:List Atr} {P:Pcs} (h:¬ (x.ch=0∨x.gone=true)) (hne:bl≠al):YL x al (P++[(t,bl)])=P++[(t,bl)]++[(chB x.ch,al)]:=by
 unfold YL
 rw[if_neg h]
 simp[hne]
theorem S6 (l:List El) (ms:List OpD) (f:Nat):∀ n,(Xg l ms f n).length≤n
 | 0=>by simp[Xg]
 | n+1=>by
  have ih:=S6 l ms f n
  rw[Xg]
  split
  ·unfold YL
   split
   ·omega
   ·split
    ·rename_i q hq
     have hne:Xg l ms f n≠[]:=fun e=>by rw[e] at hq;cases hq
     have:=List.length_pos_iff.2 hne
     split <;> simp <;> omega
    ·simp;omega
  ·omega
theorem Uz (l:List El) (ms:List OpD) (f:Nat):∀ n,∀ q∈Xg l ms f n,q.1.size≤n
 | 0=>by simp[Xg]
 | n+1=>by
  have ih:=Uz l ms f n
  have hc:∀ c,(chB c).size=1:=fun c=>rfl
  rw[Xg]
  split
  ·unfold YL
   split
   ·intro q hq;have:=ih q hq;omega
   ·split
    ·rename_i q hq
     have hq1:=ih q (List.mem_of_getLast? hq)
     split
     ·intro z hz
      rw[List.mem_append,List.mem_singleton] at hz
      rcases hz with hz|rfl
      ·have:=ih z ((List.dropLast_subset _) hz);omega
      ·simp only[ByteArray.size_append,hc];omega
     ·intro z hz
      rw[List.mem_append,List.mem_singleton] at hz
      rcases hz with hz|rfl
      ·have:=ih z hz;omega
      ·simp only[hc];omega
    ·intro z hz
     rw[List.mem_append,List.mem_singleton] at hz
     rcases hz with hz|rfl
     ·have:=ih z hz;omega
     ·simp only[hc];omega
  ·intro q hq;have:=ih q hq;omega
structure Pc where
 t:ByteArray
 s:Sl
def Pc.cells (x:Pc):List Value:=[.string x.t,.slice x.s.a x.s.n x.s.cap]
theorem Pc.len (x:Pc):x.cells.length=2:=rfl
theorem Pc.one (x:Pc):∀ u∈x.cells,u.oneCell'=true:=by
 intro u hu
 simp only[Pc.cells,List.mem_cons,List.not_mem_nil,or_false] at hu
 rcases hu with rfl|rfl <;> rfl
def X7 (base:Nat) (W:World) (u:Value) (P:Pcs):Prop :=
 ∃ vs:List Pc,Own Pc.cells 2 75 base W u vs∧vs.length=P.length∧∀ (j:Nat) (x:Pc),vs[j]?=some x→∃ al,P[j]?=some (x.t,al)∧Own Atr.cells 2 73 base W x.s.val al
theorem X7.ext {base:Nat} {W W':World} {u:Value} {P:Pcs} (h:X7 base W u P) (hb:Below W.heap.size W W'):X7 base W' u P:=by
 obtain ⟨vs,h1,h2,h3⟩:=h
 have hx:Ext (fun _=>False) W W':=Ext.of_below hb
 refine ⟨vs,h1.ext hx (fun _ _ f=>f),h2,fun j x hj=>?_⟩
 obtain ⟨al,h4,h5⟩:=h3 j x hj
 exact ⟨al,h4,h5.ext hx (fun _ _ f=>f)⟩
theorem TD:(Tryz.prog.info? 75).map (fun i=>(i.zero,i.size,i.bytes))=some (some (.agg #[.string ⟨#[]⟩,.slice none 0 0]),2,40):=by kernel_rfl
theorem Vm (W:World) (b:Nat) (c:Int) (h:W.cell? ⟨b,0,none⟩=some (.int .u8 (c % 256))):(convert 64 9 (.slice (some ⟨b,0,none⟩) 1 1)).run Tryz.prog W=.ok (.string (chB c)) W:=by
 rw[run_convert_bytes_string W 64 9 5 (some ⟨b,0,none⟩) 1 1 Tryz.underlying64 (by kernel_rfl) Tryz.underlying9]
 have hl:=run_loadCells_list (P:=Tryz.prog) W ⟨b,0,none⟩ [.int .u8 (c % 256)] (fun j v hj=>by
  rw[Uj,Nat.zero_add]
  match j,hj with
  | 0,hj=>simp at hj;subst hj;exact h
  | n+1,hj=>simp at hj)
 have:=run_bytesToString (P:=Tryz.prog) W ⟨b,0,none⟩ 1 1 [c % 256] hl
 rw[this]
 rfl
theorem Sw (va vb:Value) (la lb:List Atr) (w:World) (ha:Z4 Atr.cells 2 w va la) (hb:Z4 Atr.cells 2 w vb lb) :
  Calls Tryz.prog 70 #[va,vb] w fun e w'=>e=.returned (.bool (decide (la=lb)))∧Below w.heap.size w w':=by
 obtain ⟨aa,capa,rfl,hca,hma,hcella⟩:=ha
 obtain ⟨ab,capb,rfl,hcb,hmb,hcellb⟩:=hb
 unfold maxLen at hma hmb
 by_cases hl:la.length=lb.length
 ·have HL:=Lib.hid hl
  have hl1:(((la.length:Nat):Int) != ((lb.length:Nat):Int))=false:=by simp[hl]
  clear hl
  go_enter Tryz.func70,Tryz.ntmps70
  go_wp2_with fail
  go_loopg [13] la.length (fun g i wr=>∃ k:Nat,g=la.length - k∧k≤la.length∧i=.int .i64 k∧Hid (∀ j,j<k→la[j]?=lb[j]?)∧Below w.heap.size w wr)
  case atStart=>exact ⟨0,rfl,Nat.zero_le _,rfl,fun j hj=>absurd hj (by omega),Below.refl _ _⟩
  case round =>
   obtain ⟨k,hg,hk,rfl,hpre,hB⟩:=hrel
   by_cases hlt:k<la.length
   ·obtain ⟨x,hx⟩:∃ x,la[k]?=some x:=⟨_,List.getElem?_eq_getElem hlt⟩
    obtain ⟨y,hy⟩:∃ y,lb[k]?=some y:=⟨_,List.getElem?_eq_getElem (by rw[←HL.out];exact hlt)⟩
    obtain ⟨b1,o1,rfl,hc1⟩:=hcella (by intro e;rw[e] at hlt;simp at hlt)
    obtain ⟨b2,o2,rfl,hc2⟩:=hcellb (by intro e;rw[e] at hy;simp at hy)
    have c10:wr.cell? ⟨b1,o1+k*2,none⟩=some (.string x.name):=Z0 hB (hc1 k x hx 0 _ rfl)
    have c11:wr.cell? ⟨b1,o1+k*2+1,none⟩=some (.string x.value):=Z0 hB (hc1 k x hx 1 _ rfl)
    have c20:wr.cell? ⟨b2,o2+k*2,none⟩=some (.string y.name):=Z0 hB (hc2 k y hy 0 _ rfl)
    have c21:wr.cell? ⟨b2,o2+k*2+1,none⟩=some (.string y.value):=Z0 hB (hc2 k y hy 1 _ rfl)
    have hlt2:k<lb.length:=(List.getElem?_eq_some_iff.1 hy).1
    have HX:=Lib.hid hx
    have HY:=Lib.hid hy
    have HG:=Lib.hid hg
    clear hx hy hg hcella hcellb hc1 hc2
    by_cases hxy:x=y
    ·subst hxy
     go_wp2_with fail
     go_region_held3 (fun W=>W.cell? ⟨b1,o1+k*2,none⟩=some (.string x.name)∧W.cell? ⟨b1,o1+k*2+1,none⟩=some (.string x.value)∧W.cell? ⟨b2,o2+k*2,none⟩=some (.string x.name)∧W.cell? ⟨b2,o2+k*2+1,none⟩=some (.string x.value)) (exact ⟨c10,c11,c20,c21⟩) (fail)
     go_wp2_with fail
     go_roundg (la.length - (k+1))
     case measure=>rw[HG.out];omega
     case rel =>
      refine ⟨k+1,rfl,hlt,by go_num,fun j hj=>?_,hB.drew⟩
      by_cases hjk:j<k
      ·exact hpre.out j hjk
      ·have:j=k:=by omega
       subst this
       rw[HX.out,HY.out]
    ·have hres:decide (la=lb)=false:=by
      rw[decide_eq_false_iff_not]
      intro e
      rw[e,HY.out] at HX
      exact hxy (Option.some.inj HX.out).symm
     have HR:=Lib.hid hres
     clear hres
     by_cases h1:x.name.toList=y.name.toList
     ·have h2:¬ x.value.toList=y.value.toList:=fun h2=>hxy (by
       obtain ⟨xn,xv⟩:=x
       obtain ⟨yn,yv⟩:=y
       have e1:=(ZS _ _).1 h1
       have e2:=(ZS _ _).1 h2
       simp only at e1 e2
       rw[e1,e2])
      go_wp2_with fail
      go_region_held3 (fun W=>W.cell? ⟨b1,o1+k*2,none⟩=some (.string x.name)∧W.cell? ⟨b1,o1+k*2+1,none⟩=some (.string x.value)∧W.cell? ⟨b2,o2+k*2,none⟩=some (.string y.name)∧W.cell? ⟨b2,o2+k*2+1,none⟩=some (.string y.value)) (exact ⟨c10,c11,c20,c21⟩) (fail)
      go_wp2_with fail
      go_ret
      exact ⟨by rw[HR.out];rfl,hB.drew⟩
     ·go_wp2_with fail
      go_region_held3 (fun W=>W.cell? ⟨b1,o1+k*2,none⟩=some (.string x.name)∧W.cell? ⟨b1,o1+k*2+1,none⟩=some (.string x.value)∧W.cell? ⟨b2,o2+k*2,none⟩=some (.string y.name)∧W.cell? ⟨b2,o2+k*2+1,none⟩=some (.string y.value)) (exact ⟨c10,c11,c20,c21⟩) (fail)
      go_wp2_with fail
      go_ret
      exact ⟨by rw[HR.out];rfl,hB.drew⟩
   ·have hres:decide (la=lb)=true:=by
     rw[decide_eq_true_eq]
     exact U3 HL.out hpre.out (by omega)
    have HR:=Lib.hid hres
    clear hres
    go_wp2_with fail
    go_ret
    exact ⟨by rw[HR.out];rfl,hB⟩
 ·have hres:decide (la=lb)=false:=by
   rw[decide_eq_false_iff_not]
   intro e
   exact hl (by rw[e])
  rw[hres]
  clear hres
  have hl1:(((la.length:Nat):Int) != ((lb.length:Nat):Int))=true:=by simp;omega
  go_enter Tryz.func70,Tryz.ntmps70
  go_wp2_with fail
  go_ret
  exact ⟨rfl,Below.refl _ _⟩
end Go.Proofs.YtlgipkemoldckaaGreatDoor
namespace Go.Proofs.YtlgipkemoldckaaGreatDoor
open Go.RowKit Go.Sort Go.Shelf
def Z3C (l:List El) (ms:List OpD) (F:List Zc) (f:Nat) (t:Int) (v:Value) (w:World) (n:Nat) (out:Value) (wr:World):Prop :=
 Hid (X7 (w.heap.size+1) wr out (Xg l ms f n))∧Hid (Own Zc.cells 28 183 (w.heap.size+1) wr v F)∧wr.cell? ⟨w.heap.size,3,none⟩=some (.int .i64 t)∧Below w.heap.size w wr∧w.heap.size+1≤wr.heap.size
noncomputable def Y9 (l:List El) (ms:List OpD) (fi ti:Int):Pcs:=if fi<0∨ti<fi∨(l.length:Int)<ti then [] else Xg l ms fi.toNat (ti.toNat - fi.toNat)
theorem Z2x {base:Nat} {w:World} {g n cap:Nat} {Q:List Pc} {x:Pc} (h:Own Pc.cells 2 75 base w (.slice (some ⟨g,0,none⟩) n cap) (Q++[x])) (t:ByteArray) :
  Own Pc.cells 2 75 base (w.setCell ⟨g,Q.length*2,none⟩ (.string t)) (.slice (some ⟨g,0,none⟩) n cap) (Q++[⟨t,x.s⟩]):=by
 have hn:n=(Q++[x]).length:=by
  obtain ⟨va,vc,hv,_⟩:=h.slice Pc.len
  cases hv
  rfl
 subst hn
 have h1:=(World.ownsRow.stored h (Q.length*2) (.string t)).1
 unfold Own
 have e:((Q++[x]).flatMap Pc.cells).set (Q.length*2) (.string t)=(Q++[(⟨t,x.s⟩:Pc)]).flatMap Pc.cells:=by
  have hl:=ZY Pc.len Q
  rw[List.flatMap_append,List.flatMap_append,List.set_append_right _ _ (by omega),hl,Nat.sub_self]
  rfl
 have hl2:(Q++[(⟨t,x.s⟩:Pc)]).length=(Q++[x]).length:=by simp
 rw[←e,hl2]
 exact h1
theorem Xl {base:Nat} {w:World} {g n cap:Nat} {Q:List Pc} {x:Pc} (h:Own Pc.cells 2 75 base w (.slice (some ⟨g,0,none⟩) n cap) (Q++[x])) :
  n=Q.length+1∧n≤cap∧cap≤maxLen∧g<w.heap.size∧base≤g∧w.cell? ⟨g,Q.length*2,none⟩=some (.string x.t)∧w.cell? ⟨g,Q.length*2+1,none⟩=some (.slice x.s.a x.s.n x.s.cap)∧w.frozen? ⟨g,Q.length*2,none⟩=false:=by
 have hb:=h.blk g rfl
 obtain ⟨va,vc,hv,h2,h3,h4⟩:=h.slice Pc.len
 cases hv
 obtain ⟨b,o,he,hc⟩:=h4 (by simp)
 cases he
 have c1:=hc Q.length x (by simp) 0 _ rfl
 have c2:=hc Q.length x (by simp) 1 _ rfl
 rw[Nat.zero_add] at c1 c2
 refine ⟨by simp,h2,h3,hb.2,hb.1,c1,c2,World.ownsRow.frozenAt h _⟩
theorem Vc {α:Type} (l:List α):l=[]∨∃ q x,l=q++[x]:=by
 rcases List.eq_nil_or_concat l with h|⟨q,x,h⟩
 ·exact .inl h
 ·exact .inr ⟨q,x,by rw[h,List.concat_eq_append]⟩
theorem Wt {base g cap nn:Nat} {w3:World} {q1:List Pc} {s:Sl} {u1 t':ByteArray} {q2:Pcs} {al:List Atr} (hown:Own Pc.cells 2 75 base w3 (.slice (some ⟨g,0,none⟩) nn cap) (q1++[⟨u1,s⟩])) (hl:q1.length=q2.length)
  (hE:∀ (j:Nat) (y:Pc),(q1++[(⟨u1,s⟩:Pc)])[j]?=some y→∃ al',(q2++[(u1,al)])[j]?=some (y.t,al')∧Own Atr.cells 2 73 base w3 y.s.val al') (o:Obj) :
  X7 base (((w3.setCell ⟨g,q1.length*2,none⟩ (.string t')).alloc o).drew) (.slice (some ⟨g,0,none⟩) nn cap) (q2++[(t',al)]):=by
 have hx4:Ext (·=g) w3 (w3.setCell ⟨g,q1.length*2,none⟩ (.string t')):=(Ext.refl (·=g) w3).setCell (p:=⟨g,q1.length*2,none⟩) (.inr rfl) _
 have hk:∀ {v:Value} {q:List Atr},Own Atr.cells 2 73 base w3 v q→Own Atr.cells 2 73 base (((w3.setCell ⟨g,q1.length*2,none⟩ (.string t')).alloc o).drew) v q:=fun h=>((h.ext hx4 (fun b hb e=>h.apart hown (by decide) b hb (by rw[e];rfl))).alloc o).drew
 refine ⟨q1++[⟨t',s⟩],((Z2x hown t').alloc o).drew,by simp[hl],fun j y hj=>?_⟩
 by_cases hjv:j<q1.length
 ·rw[List.getElem?_append_left hjv] at hj
  obtain ⟨al',h1,h2⟩:=hE j y (by rw[List.getElem?_append_left hjv];exact hj)
  rw[List.getElem?_append_left (by omega)] at h1
  exact ⟨al',by rw[List.getElem?_append_left (by omega)];exact h1,hk h2⟩
 ·have hj2:j=q1.length:=by
   have:=(List.getElem?_eq_some_iff.1 hj).1
   simp at this
   omega
  subst hj2
  simp at hj
  subst hj
  obtain ⟨al',h1,h2⟩:=hE q1.length ⟨u1,s⟩ (by simp)
  rw[hl] at h1
  simp at h1
  subst h1
  exact ⟨al,by rw[hl];simp,hk h2⟩
theorem TJ (va vb:Option Addr) (ca cb:Nat) (l:List El) (ms:List OpD) (sn sr fi ti:Int) (w:World) (hl:Z4 El.cells 4 w (.slice va l.length ca) l) (hm:Z4 OpD.cells 26 w (.slice vb ms.length cb) ms) (hln:l.length≤1000) (hmn:ms.length≤1000) :
  Calls Tryz.prog 47 #[.slice va l.length ca,.agg #[.int .i64 sn,.int .i64 sr,.int .i64 fi,.int .i64 ti],.slice vb ms.length cb] w fun e w'=>∃ u,e=.returned u∧Hid (X7 w.heap.size w' u (Y9 l ms fi ti))∧Below w.heap.size w w':=by
 obtain ⟨i0,hi,hz0,hz1',hz2⟩:=info_parts TD
 obtain ⟨_,_,e0,hcap,hmax,hcs⟩:=id hl
 cases e0
 have HC:=Lib.hid hcs
 have hB0:Below w.heap.size w (w.alloc (.cells #[.int .i64 sn,.int .i64 sr,.int .i64 fi,.int .i64 ti] 109)):=(Below.refl _ _).alloc (Nat.le_refl _) _
 have hl0:=hl.below hB0
 have hm0:=hm.below hB0
 have d2:(w.alloc (.cells #[.int .i64 sn,.int .i64 sr,.int .i64 fi,.int .i64 ti] 109)).cell? ⟨w.heap.size,2,none⟩=some (.int .i64 fi):=by go_simp
 have d3:(w.alloc (.cells #[.int .i64 sn,.int .i64 sr,.int .i64 fi,.int .i64 ti] 109)).cell? ⟨w.heap.size,3,none⟩=some (.int .i64 ti):=by go_simp
 have hz:(w.alloc (.cells #[.int .i64 sn,.int .i64 sr,.int .i64 fi,.int .i64 ti] 109)).heap.size=w.heap.size+1:=by simp
 clear hcs hl hm
 by_cases hbad:fi<0∨ti<fi∨(l.length:Int)<ti
 ·have HR:Hid (∀ W,X7 w.heap.size W (.slice none 0 0) (Y9 l ms fi ti)):=Jh (fun W=>by
   rw[Y9,if_pos hbad]
   exact ⟨[],Own.nil,rfl,by simp⟩)
  by_cases h1:fi<0
  ·clear hbad
   go_enter Tryz.func47,Tryz.ntmps47
   go_wp2_with fail
   go_ret
   exact ⟨_,rfl,Jh (HR.out _),hB0⟩
  ·by_cases h2:ti<fi
   ·clear hbad
    go_enter Tryz.func47,Tryz.ntmps47
    go_wp2_with fail
    go_ret
    exact ⟨_,rfl,Jh (HR.out _),hB0⟩
   ·have h3:(l.length:Int)<ti:=by omega
    clear hbad
    go_enter Tryz.func47,Tryz.ntmps47
    go_wp2_with fail
    go_ret
    exact ⟨_,rfl,Jh (HR.out _),hB0⟩
 ·obtain ⟨f,rfl⟩:∃ f:Nat,fi=(f:Int):=⟨fi.toNat,by omega⟩
  obtain ⟨N,rfl⟩:∃ N:Nat,ti=(f:Int)+(N:Int):=⟨(ti - f).toNat,by omega⟩
  have HR:Hid (Y9 l ms f ((f:Int)+(N:Int))=Xg l ms f N):=Jh (by
   rw[Y9,if_neg hbad]
   have e1:((f:Int)+(N:Int)).toNat - (f:Int).toNat=N:=by omega
   rw[e1,Int.toNat_natCast])
  have hfN:f+N≤l.length:=by omega
  have i1:¬ (f:Int)<0:=by omega
  have i2:¬ (f:Int)+(N:Int)<(f:Int):=by omega
  have i3:¬ (l.length:Int)<(f:Int)+(N:Int):=by omega
  have i4:¬ (N:Int)<0:=by omega
  clear hbad
  obtain ⟨W0,hW0⟩:=Je (w.alloc (.cells #[.int .i64 sn,.int .i64 sr,.int .i64 f,.int .i64 ((f:Int)+(N:Int))] 109))
  rw[hW0] at hB0 hl0 hm0 d2 d3 hz
  have HW0:=Lib.hid hW0
  clear hW0
  go_enter Tryz.func47,Tryz.ntmps47
  go_upto_region 1 with fail
  rw[HW0.out]
  go_wp2_with fail
  refine (Z1L va vb ca cb l ms W0 hl0 hm0 hln hmn).mono ?_
  rintro e w1 ⟨v,F,rfl,hFo,hF,hb1⟩
  have hFn:F.length≤1000:=by
   have h1:=VN (Zy (Ze l)) (Ze ms)
   rw[Xw] at h1
   have:=hF.perm.length_eq
   omega
  have HF:=Lib.hid hF
  have hB1:=hB0.trans (hb1.mono hB0.size)
  have e2:=Z0 hb1 d2
  have e3:=Z0 hb1 d3
  have hs1:=hb1.size
  rw[hz] at hs1
  rw[hz] at hFo
  clear hF hb1 hB0 hl0 hm0 d2 d3
  go_wp2_with fail
  go_loopg [8,9] N (fun g out iv wr=>∃ n:Nat,g=N - n∧n≤N∧iv=.int .i64 ((f:Int)+(n:Int))∧Z3C l ms F f ((f:Int)+(N:Int)) v w n out wr)
  case atStart=>exact ⟨0,by omega,by omega,by simp,Lib.hid ⟨[],Own.nil,rfl,by simp⟩,Lib.hid hFo,e3,hB1,hs1⟩
  case round =>
   clear e2 e3 hB1 hs1 hFo
   obtain ⟨n,hg,hn,rfl,hP,hFo,e3,hB,hs⟩:=hrel
   have HG:=Lib.hid hg
   have HB:=Lib.hid hB
   by_cases hnN:n<N
   ·obtain ⟨x,hx⟩:∃ x,l[f+n]?=some x:=⟨_,List.getElem?_eq_getElem (by omega)⟩
    obtain ⟨b,o,rfl,hcc⟩:=HC.out (by intro e;rw[e] at hx;simp at hx)
    have hkp:∀ {b o u},w.cell? ⟨b,o,none⟩=some u→wr.cell? ⟨b,o,none⟩=some u:=fun h=>(World.cell?_of_block (w:=w) (hB.block _ (Zj h))).trans h
    have x2:wr.cell? ⟨b,o+(f+n)*4+2,none⟩=some (.int .i64 x.ch):=hkp (hcc (f+n) x hx 2 _ rfl)
    have x3:wr.cell? ⟨b,o+(f+n)*4+3,none⟩=some (.bool x.gone):=hkp (hcc (f+n) x hx 3 _ rfl)
    have hbw:b<w.heap.size:=Zj (hcc (f+n) x hx 2 _ rfl)
    have j1:(f:Int)+(n:Int)<(f:Int)+(N:Int):=by omega
    have j2:(f:Int)+(n:Int)<(l.length:Int):=by omega
    have j3:(0:Int)≤(f:Int)+(n:Int):=by omega
    have j4:((f:Int)+(n:Int)).toNat=f+n:=by omega
    have HS:=Jh (SH (ms:=ms) hx)
    clear hcc hkp hg hB hx
    by_cases hsk:x.ch=0∨x.gone=true
    ·have HSK:=Jh (Tb (al:=VB l ms (f+n)) (P:=Xg l ms f n) hsk)
     by_cases hc0:x.ch=0
     ·rw[hc0] at x2
      clear hsk
      go_wp2_with fail
      go_roundg (N - (n+1))
      case measure=>rw[HG.out];omega
      case rel=>exact ⟨n+1,rfl,by omega,by simp;omega,Jh (by rw[HS.out,HSK.out];exact hP.out),hFo,e3,HB.out,hs⟩
     ·have hgn:x.gone=true:=hsk.resolve_left hc0
      rw[hgn] at x3
      clear hsk
      go_wp2_with fail
      go_roundg (N - (n+1))
      case measure=>rw[HG.out];omega
      case rel=>exact ⟨n+1,rfl,by omega,by simp;omega,Jh (by rw[HS.out,HSK.out];exact hP.out),hFo,e3,HB.out,hs⟩
    ·have hc0:¬ x.ch=0:=fun e=>hsk (.inl e)
     have hgn:x.gone=false:=by
      cases h:x.gone with
      | false=>rfl
      | true=>exact absurd (.inr h) hsk
     rw[hgn] at x3
     have HK:=Lib.hid hsk
     clear hsk
     go_wp2_with fail
     have hhas:=Z3n v F ((f+n:Nat):Int) wr (hFo.out.slice Zc.len) hFn
     rw[Int.natCast_add] at hhas
     refine hhas.mono ?_
     rintro e w2 ⟨u2,al,rfl,hA1,hA2,hA3,hb2⟩
     have hal:VB l ms (f+n)=al:=RH (Z04 HF.out ⟨by rw[Int.natCast_add];exact hA2,hA3⟩ (QP F _))
     have HAL:=Lib.hid hal
     have hB2:=HB.out.trans (hb2.mono HB.out.size)
     have hA4:=hA1.mono hs
     have y2:=Z0 hb2 x2
     have e4:=Z0 hb2 e3
     have hFo2:=hFo.out.ext (Ext.of_below (S:=fun _=>False) hb2) (fun _ _ h=>h)
     have hs2:w.heap.size+1≤w2.heap.size:=Nat.le_trans hs hb2.size
     obtain ⟨vs,hO,hvl,hE⟩:=hP.out.ext hb2
     have hple:=S6 l ms f n
     have HSZ:=Jh (Uz l ms f n)
     obtain ⟨sl,rfl⟩:=hA1.sl
     have HE:=Lib.hid hE
     have HFo2:=Lib.hid hFo2
     have HB2:=Lib.hid hB2
     have HA4:=Lib.hid hA4
     clear hal hA1 hA2 hA3 hA4 hb2 hhas x2 x3 hP hFo e3 hs HB hE hFo2 hB2
     generalize Xg l ms f n=P at *
     rcases Vc P with rfl|⟨Q,⟨t0,bl⟩,rfl⟩
     ·obtain rfl:vs=[]:=List.eq_nil_of_length_eq_zero (by simpa using hvl)
      obtain ⟨a8,c8,rfl,hc8,hm8,_⟩:=hO.slice Pc.len
      simp only[List.length_nil] at hO hc8 ⊢
      go_upto_region 13 with (at_builtin;refine Zo rfl _ _ _ rfl i0 (.agg #[.string ⟨#[]⟩,.slice none 0 0]) 40 Tryz.underlying25 hi hz0 hz1' hz2 rfl (by omega) Pc.len Pc.one rfl (hO.alloc _) ⟨⟨#[]⟩,sl⟩ w2.heap.size 1 rfl ?_ (by unfold maxLen;omega) (by omega) (by simp;omega) ?_)
      ·intro j u hj
       match j,hj with
       | 0,hj=>simp[Pc.cells] at hj;subst hj;go_simp
       | 1,hj=>simp[Pc.cells] at hj;subst hj;go_simp
       | n+2,hj=>simp[Pc.cells] at hj
      ·intro v' w3 hown hx3
       have hdis:∀ {k:Nat} {α:Type} {ea:α→List Value} {e:TypeId} {v:Value} {q:List α},Own ea k e (w.heap.size+1) w2 v q→e≠75→Own ea k e (w.heap.size+1) w3 v q:=fun h he=>(h.alloc _).ext hx3 (h.apart hO he)
       have hne:∀ b,Value.ownBlock (Value.slice a8 0 c8)=some b→w.heap.size+1≤b:=fun b hb=>(hO.blk b hb).1
       have HB3:=Jh (Ext.new (HB2.out.alloc (by omega) _) hx3 (fun i hi _ e=>by have:=hne _ e;omega) (by simp;omega))
       have e5:=hx3.keep (Z1 e4 _) (fun e=>by have:=hne _ e;omega)
       have y3:=hx3.keep (Z1 y2 _) (fun e=>by have:=hne _ e;omega)
       have hs3:w.heap.size+1≤w3.heap.size:=by have:=hx3.size;simp at this;omega
       have HFo3:=Jh (hdis HFo2.out (by decide))
       obtain ⟨g,cap,nn,rfl⟩:∃ g c nn,v'=.slice (some ⟨g,0,none⟩) nn c:=by
        rcases hown.eq_slice with ⟨_,h⟩|⟨g,c,h,_⟩
        ·simp at h
        ·exact ⟨g,c,_,h⟩
       replace hown:Own Pc.cells 2 75 (w.heap.size+1) w3 (.slice (some ⟨g,0,none⟩) nn cap) (([]:List Pc)++[⟨⟨#[]⟩,sl⟩]):=by first|exact hown|(rw[List.append_assoc];exact hown)|simpa using hown
       have HE3:Hid (∀ (j:Nat) (y:Pc),(([]:List Pc)++[(⟨⟨#[]⟩,sl⟩:Pc)])[j]?=some y→∃ al',(([]:Pcs)++[((⟨#[]⟩:ByteArray),al)])[j]?=some (y.t,al')∧Own Atr.cells 2 73 (w.heap.size+1) w3 y.s.val al'):=Jh (fun j y hj=>by
        by_cases hjv:j<List.length ([]:List Pc)
        ·rw[List.getElem?_append_left hjv] at hj
         rw[List.getElem?_append_left (by rw[←hvl];exact hjv)]
         obtain ⟨al',h1,h2⟩:=HE.out j y hj
         exact ⟨al',h1,hdis h2 (by decide)⟩
        ·have hj2:j=List.length ([]:List Pc):=by
          have:=(List.getElem?_eq_some_iff.1 hj).1
          rw[List.length_append] at this
          have e1:List.length [(⟨⟨#[]⟩,sl⟩:Pc)]=1:=rfl
          rw[e1] at this
          omega
         subst hj2
         simp at hj
         subst hj
         rw[hvl]
         exact ⟨al,by simp,hdis HA4.out (by decide)⟩)
       clear hx3 hdis hne hO e4 y2 hs2 HB2 HA4 HFo2 HE
       have HT0:Hid (ByteArray.size (⟨#[]⟩:ByteArray)≤1000):=Jh (by decide)
       have HLQ:Hid (List.length (α:=Pc) []=List.length (α:=ByteArray × List Atr) []):=Lib.hid rfl
       obtain ⟨k1,k2,k3,k4,k5,k6,k7,k8⟩:=Xl (Q:=[]) (x:=⟨⟨#[]⟩,sl⟩) hown
       obtain ⟨m,hmq⟩:∃ m,List.length (α:=Pc) []=m:=⟨_,rfl⟩
       have hmb:List.length (α:=Pc) []≤1000:=by first|omega|(simp at hvl;simp;omega)|simp
       rw[hmq] at k1 k6 k7 k8 hmb
       first|subst k1|(obtain rfl:m=m0:=by omega)
       simp only at k6
       have HMQ:=Lib.hid hmq
       clear hmq
       have hbw3:b<w3.heap.size:=by have:=HB3.out.size;omega
       have HST:Hid (YL x al ([])=([]:Pcs)++[((⟨#[]⟩:ByteArray)++chB x.ch,al)]):=Jh (by rw[UL HK.out,TM];rfl)
       have hsum:∀ W,(Op.stringOp .add ((⟨#[]⟩:ByteArray)) (chB x.ch)).run Tryz.prog W=.ok (.string (((⟨#[]⟩:ByteArray))++chB x.ch)) W:=fun W=>run_string_add_sum W _ _ (by have e1:(chB x.ch).size=1:=rfl;have e2:=HT0.out;omega)
       have hcv:∀ W,W.cell? ⟨w3.heap.size,0,none⟩=some (.int .u8 (x.ch % 256))→(convert 64 9 (.slice (some ⟨w3.heap.size,0,none⟩) 1 1)).run Tryz.prog W=.ok (.string (chB x.ch)) W:=fun W h=>Vm W _ _ h
       go_upto_region 13 with fail
       go_region
       have hcl:=Wt (t':=((⟨#[]⟩:ByteArray))++chB x.ch) (q1:=[]) (q2:=([]:Pcs)) hown HLQ.out HE3.out (.cells #[.int .u8 (x.ch % 256)] 5)
       rw[HMQ.out] at hcl
       have HCL:=Lib.hid hcl
       have hx4:Ext (·=g) w3 ((w3.setCell ⟨g,m*2,none⟩ (.string (((⟨#[]⟩:ByteArray))++chB x.ch))).alloc (.cells #[.int .u8 (x.ch % 256)] 5)).drew:=(((Ext.refl (·=g) w3).setCell (p:=⟨g,m*2,none⟩) (.inr rfl) _).alloc _).drew
       have hz4:=hx4.size
       have hFo4:=Jh (HFo3.out.ext hx4 (fun b hb e=>HFo3.out.apart hown (by decide) b hb (by rw[e];rfl)))
       clear hcl hown k6 k7 k8 hsum hcv y3 HE3
       go_wp2_with fail
       go_roundg (N - (n+1))
       case measure=>rw[HG.out];omega
       case rel=>exact ⟨n+1,rfl,by omega,by simp;omega,Jh (by rw[HS.out,HAL.out,HST.out];exact HCL.out),hFo4,hx4.keep e5 (by omega),Ext.new HB3.out hx4 (fun i hi _ e=>by omega) (by omega),by omega⟩
     ·obtain ⟨vq,⟨pt,ps⟩,rfl⟩:∃ vq pc,vs=vq++[pc]:=by
       rcases Vc vs with rfl|h
       ·simp at hvl
       ·exact h
      have hvq:vq.length=Q.length:=by simpa using hvl
      obtain ⟨bl',hb1,hb2⟩:=HE.out vq.length ⟨pt,ps⟩ (by simp)
      rw[hvq] at hb1
      simp at hb1
      obtain ⟨rfl,rfl⟩:=hb1
      have HT1:Hid (ByteArray.size t0≤1000):=Jh (by have:=HSZ.out (t0,bl) (by simp);simp only at this;omega)
      obtain ⟨g0,c0,n0,rfl⟩:∃ g c nn,u8=.slice (some ⟨g,0,none⟩) nn c:=by
       rcases hO.eq_slice with ⟨_,h⟩|⟨g,c,h,_⟩
       ·simp at h
       ·exact ⟨g,c,_,h⟩
      obtain ⟨p1,p2,p3,p4,p5,p6,p7,p8⟩:=Xl hO
      obtain ⟨m0,hm0⟩:∃ m,vq.length=m:=⟨_,rfl⟩
      have hmb0:m0≤1000:=by simp at hple;omega
      rw[hm0] at p1 p6 p7 p8
      subst p1
      simp only at p6 p7
      have HM0:=Lib.hid hm0
      clear hm0
      have hbs:=hb2.slice (fun _=>rfl)
      have hAs:=HA4.out.slice (fun _=>rfl)
      simp only[Sl.val] at hbs hAs
      by_cases hbe:bl=al
      ·subst hbe
       go_wp2_with fail
       refine (Sw _ _ bl _ w2 hbs hAs).mono ?_
       rintro e w3 ⟨rfl,hb5⟩
       rw[decide_eq_true rfl]
       have hx5:Ext (fun _=>False) w2 w3:=Ext.of_below hb5
       have hown:=hO.ext hx5 (fun _ _ f=>f)
       have HE3:Hid (∀ (j:Nat) (y:Pc),(vq++[(⟨t0,ps⟩:Pc)])[j]?=some y→∃ al',(Q++[(t0,bl)])[j]?=some (y.t,al')∧Own Atr.cells 2 73 (w.heap.size+1) w3 y.s.val al'):=Jh (fun j y hj=>by
        obtain ⟨al',h1,h2⟩:=HE.out j y hj
        exact ⟨al',h1,h2.ext hx5 (fun _ _ f=>f)⟩)
       have HFo3:=Jh (HFo2.out.ext hx5 (fun _ _ f=>f))
       have e5:=Z0 hb5 e4
       have y3:=Z0 hb5 y2
       have HB3:=Jh (HB2.out.trans (hb5.mono HB2.out.size))
       have hs3:w.heap.size+1≤w3.heap.size:=Nat.le_trans hs2 hb5.size
       have HT0:=HT1
       have HLQ:=Lib.hid hvq
       clear hx5 hb5 hO HE e4 y2 hs2 HB2 hbs hAs hb2 HA4 p6 p7 p8 p4
       obtain ⟨k1,k2,k3,k4,k5,k6,k7,k8⟩:=Xl (Q:=vq) (x:=⟨t0,ps⟩) hown
       obtain ⟨m,hmq⟩:∃ m,List.length (α:=Pc) vq=m:=⟨_,rfl⟩
       have hmb:List.length (α:=Pc) vq≤1000:=by first|omega|(simp at hvl;simp;omega)|simp
       rw[hmq] at k1 k6 k7 k8 hmb
       first|subst k1|(obtain rfl:m=m0:=by omega)
       simp only at k6
       have HMQ:=Lib.hid hmq
       clear hmq
       have hbw3:b<w3.heap.size:=by have:=HB3.out.size;omega
       have HST:Hid (YL x bl (Q++[(t0,bl)])=Q++[(t0++chB x.ch,bl)]):=Jh (Tf HK.out)
       have hsum:∀ W,(Op.stringOp .add (t0) (chB x.ch)).run Tryz.prog W=.ok (.string ((t0)++chB x.ch)) W:=fun W=>run_string_add_sum W _ _ (by have e1:(chB x.ch).size=1:=rfl;have e2:=HT0.out;omega)
       have hcv:∀ W,W.cell? ⟨w3.heap.size,0,none⟩=some (.int .u8 (x.ch % 256))→(convert 64 9 (.slice (some ⟨w3.heap.size,0,none⟩) 1 1)).run Tryz.prog W=.ok (.string (chB x.ch)) W:=fun W h=>Vm W _ _ h
       go_upto_region 13 with fail
       go_region
       have hcl:=Wt (t':=(t0)++chB x.ch) (q1:=vq) (q2:=Q) hown HLQ.out HE3.out (.cells #[.int .u8 (x.ch % 256)] 5)
       rw[HMQ.out] at hcl
       have HCL:=Lib.hid hcl
       have hx4:Ext (·=g0) w3 ((w3.setCell ⟨g0,m*2,none⟩ (.string ((t0)++chB x.ch))).alloc (.cells #[.int .u8 (x.ch % 256)] 5)).drew:=(((Ext.refl (·=g0) w3).setCell (p:=⟨g0,m*2,none⟩) (.inr rfl) _).alloc _).drew
       have hz4:=hx4.size
       have hFo4:=Jh (HFo3.out.ext hx4 (fun b hb e=>HFo3.out.apart hown (by decide) b hb (by rw[e];rfl)))
       clear hcl hown k6 k7 k8 hsum hcv y3 HE3
       go_wp2_with fail
       go_roundg (N - (n+1))
       case measure=>rw[HG.out];omega
       case rel=>exact ⟨n+1,rfl,by omega,by simp;omega,Jh (by rw[HS.out,HAL.out,HST.out];exact HCL.out),hFo4,hx4.keep e5 (by omega),Ext.new HB3.out hx4 (fun i hi _ e=>by omega) (by omega),by omega⟩
      ·go_wp2_with fail
       refine (Sw _ _ bl _ w2 hbs hAs).mono ?_
       rintro e w5 ⟨rfl,hb5⟩
       rw[decide_eq_false hbe]
       have hx5:Ext (fun _=>False) w2 w5:=Ext.of_below hb5
       replace hO:=hO.ext hx5 (fun _ _ f=>f)
       have HE':Hid (∀ (j:Nat) (y:Pc),(vq++[(⟨t0,ps⟩:Pc)])[j]?=some y→∃ al',(Q++[(t0,bl)])[j]?=some (y.t,al')∧Own Atr.cells 2 73 (w.heap.size+1) w5 y.s.val al'):=Jh (fun j y hj=>by
        obtain ⟨al',h1,h2⟩:=HE.out j y hj
        exact ⟨al',h1,h2.ext hx5 (fun _ _ f=>f)⟩)
       replace HE:=HE'
       replace HA4:=Jh (HA4.out.ext hx5 (fun _ _ f=>f))
       replace HFo2:=Jh (HFo2.out.ext hx5 (fun _ _ f=>f))
       replace e4:=Z0 hb5 e4
       replace y2:=Z0 hb5 y2
       replace HB2:=Jh (HB2.out.trans (hb5.mono HB2.out.size))
       replace hs2:w.heap.size+1≤w5.heap.size:=Nat.le_trans hs2 hb5.size
       have hvs8:(vq++[(⟨t0,ps⟩:Pc)]).length≤1000:=by rw[hvl];omega
       clear hx5 hb5 HE' hbs hAs hb2 p6 p7 p8 p4
       go_upto_region 13 with (at_builtin;refine Zo rfl _ _ _ rfl i0 (.agg #[.string ⟨#[]⟩,.slice none 0 0]) 40 Tryz.underlying25 hi hz0 hz1' hz2 rfl (by omega) Pc.len Pc.one rfl (hO.alloc _) ⟨⟨#[]⟩,sl⟩ w5.heap.size 1 rfl ?_ (by unfold maxLen;omega) (by omega) (by simp;omega) ?_)
       ·intro j u hj
        match j,hj with
        | 0,hj=>simp[Pc.cells] at hj;subst hj;go_simp
        | 1,hj=>simp[Pc.cells] at hj;subst hj;go_simp
        | n+2,hj=>simp[Pc.cells] at hj
       ·intro v' w3 hown hx3
        have hdis:∀ {k:Nat} {α:Type} {ea:α→List Value} {e:TypeId} {v:Value} {q:List α},Own ea k e (w.heap.size+1) w5 v q→e≠75→Own ea k e (w.heap.size+1) w3 v q:=fun h he=>(h.alloc _).ext hx3 (h.apart hO he)
        have hne:∀ b,Value.ownBlock (Value.slice (some ⟨g0,0,none⟩) (m0+1) c0)=some b→w.heap.size+1≤b:=fun b hb=>(hO.blk b hb).1
        have HB3:=Jh (Ext.new (HB2.out.alloc (by omega) _) hx3 (fun i hi _ e=>by have:=hne _ e;omega) (by simp;omega))
        have e5:=hx3.keep (Z1 e4 _) (fun e=>by have:=hne _ e;omega)
        have y3:=hx3.keep (Z1 y2 _) (fun e=>by have:=hne _ e;omega)
        have hs3:w.heap.size+1≤w3.heap.size:=by have:=hx3.size;simp at this;omega
        have HFo3:=Jh (hdis HFo2.out (by decide))
        obtain ⟨g,cap,nn,rfl⟩:∃ g c nn,v'=.slice (some ⟨g,0,none⟩) nn c:=by
         rcases hown.eq_slice with ⟨_,h⟩|⟨g,c,h,_⟩
         ·simp at h
         ·exact ⟨g,c,_,h⟩
        replace hown:Own Pc.cells 2 75 (w.heap.size+1) w3 (.slice (some ⟨g,0,none⟩) nn cap) ((vq++[(⟨t0,ps⟩:Pc)])++[⟨⟨#[]⟩,sl⟩]):=by first|exact hown|(rw[List.append_assoc];exact hown)|simpa using hown
        have HE3:Hid (∀ (j:Nat) (y:Pc),((vq++[(⟨t0,ps⟩:Pc)])++[(⟨⟨#[]⟩,sl⟩:Pc)])[j]?=some y→∃ al',((Q++[(t0,bl)])++[((⟨#[]⟩:ByteArray),al)])[j]?=some (y.t,al')∧Own Atr.cells 2 73 (w.heap.size+1) w3 y.s.val al'):=Jh (fun j y hj=>by
         by_cases hjv:j<List.length (vq++[(⟨t0,ps⟩:Pc)])
         ·rw[List.getElem?_append_left hjv] at hj
          rw[List.getElem?_append_left (by rw[←hvl];exact hjv)]
          obtain ⟨al',h1,h2⟩:=HE.out j y hj
          exact ⟨al',h1,hdis h2 (by decide)⟩
         ·have hj2:j=List.length (vq++[(⟨t0,ps⟩:Pc)]):=by
           have:=(List.getElem?_eq_some_iff.1 hj).1
           rw[List.length_append] at this
           have e1:List.length [(⟨⟨#[]⟩,sl⟩:Pc)]=1:=rfl
           rw[e1] at this
           omega
          subst hj2
          simp at hj
          subst hj
          rw[hvl]
          exact ⟨al,by simp,hdis HA4.out (by decide)⟩)
        clear hx3 hdis hne hO e4 y2 hs2 HB2 HA4 HFo2 HE
        have HT0:Hid (ByteArray.size (⟨#[]⟩:ByteArray)≤1000):=Jh (by decide)
        have HLQ:=Lib.hid hvl
        obtain ⟨k1,k2,k3,k4,k5,k6,k7,k8⟩:=Xl (Q:=(vq++[(⟨t0,ps⟩:Pc)])) (x:=⟨⟨#[]⟩,sl⟩) hown
        obtain ⟨m,hmq⟩:∃ m,List.length (α:=Pc) (vq++[(⟨t0,ps⟩:Pc)])=m:=⟨_,rfl⟩
        have hmb:List.length (α:=Pc) (vq++[(⟨t0,ps⟩:Pc)])≤1000:=by first|omega|(simp at hvl;simp;omega)|simp
        rw[hmq] at k1 k6 k7 k8 hmb
        first|subst k1|(obtain rfl:m=m0:=by omega)
        simp only at k6
        have HMQ:=Lib.hid hmq
        clear hmq
        have hbw3:b<w3.heap.size:=by have:=HB3.out.size;omega
        have HST:Hid (YL x al (Q++[(t0,bl)])=(Q++[(t0,bl)])++[((⟨#[]⟩:ByteArray)++chB x.ch,al)]):=Jh (by rw[TE HK.out hbe,TM])
        have hsum:∀ W,(Op.stringOp .add ((⟨#[]⟩:ByteArray)) (chB x.ch)).run Tryz.prog W=.ok (.string (((⟨#[]⟩:ByteArray))++chB x.ch)) W:=fun W=>run_string_add_sum W _ _ (by have e1:(chB x.ch).size=1:=rfl;have e2:=HT0.out;omega)
        have hcv:∀ W,W.cell? ⟨w3.heap.size,0,none⟩=some (.int .u8 (x.ch % 256))→(convert 64 9 (.slice (some ⟨w3.heap.size,0,none⟩) 1 1)).run Tryz.prog W=.ok (.string (chB x.ch)) W:=fun W h=>Vm W _ _ h
        go_upto_region 13 with fail
        go_region
        have hcl:=Wt (t':=((⟨#[]⟩:ByteArray))++chB x.ch) (q1:=(vq++[(⟨t0,ps⟩:Pc)])) (q2:=(Q++[(t0,bl)])) hown HLQ.out HE3.out (.cells #[.int .u8 (x.ch % 256)] 5)
        rw[HMQ.out] at hcl
        have HCL:=Lib.hid hcl
        have hx4:Ext (·=g) w3 ((w3.setCell ⟨g,m*2,none⟩ (.string (((⟨#[]⟩:ByteArray))++chB x.ch))).alloc (.cells #[.int .u8 (x.ch % 256)] 5)).drew:=(((Ext.refl (·=g) w3).setCell (p:=⟨g,m*2,none⟩) (.inr rfl) _).alloc _).drew
        have hz4:=hx4.size
        have hFo4:=Jh (HFo3.out.ext hx4 (fun b hb e=>HFo3.out.apart hown (by decide) b hb (by rw[e];rfl)))
        clear hcl hown k6 k7 k8 hsum hcv y3 HE3
        go_wp2_with fail
        go_roundg (N - (n+1))
        case measure=>rw[HG.out];omega
        case rel=>exact ⟨n+1,rfl,by omega,by simp;omega,Jh (by rw[HS.out,HAL.out,HST.out];exact HCL.out),hFo4,hx4.keep e5 (by omega),Ext.new HB3.out hx4 (fun i hi _ e=>by omega) (by omega),by omega⟩
   ·obtain rfl:n=N:=by omega
    clear hg hB
    go_wp2_with fail
    go_ret
    refine ⟨_,rfl,Lib.hid ?_,HB.out⟩
    rw[HR.out]
    obtain ⟨vs,hO,hvl,hE⟩:=hP.out
    refine ⟨vs,hO.mono (by omega),hvl,fun j x hj=>?_⟩
    obtain ⟨al,h1,h2⟩:=hE j x hj
    exact ⟨al,h1,h2.mono (by omega)⟩
def Z3y (l:List El) (ms:List OpD) (f:Nat) (t:Int) (w:World) (n:Nat) (out:Value) (wr:World):Prop :=
 Hid (X7 (w.heap.size+1) wr out (Xg l ms f n))∧wr.cell? ⟨w.heap.size,3,none⟩=some (.int .i64 t)∧Below w.heap.size w wr∧w.heap.size+1≤wr.heap.size
theorem Ta (va vb:Option Addr) (ca cb:Nat) (l:List El) (ms:List OpD) (sn sr fi ti:Int) (w:World) (hl:Z4 El.cells 4 w (.slice va l.length ca) l) (hm:Z4 OpD.cells 26 w (.slice vb ms.length cb) ms) (hln:l.length≤1000) (hmn:ms.length≤1000) :
  Calls Tryz.prog 54 #[.slice va l.length ca,.agg #[.int .i64 sn,.int .i64 sr,.int .i64 fi,.int .i64 ti],.slice vb ms.length cb] w fun e w'=>∃ u,e=.returned u∧Hid (X7 w.heap.size w' u (Y9 l ms fi ti))∧Below w.heap.size w w':=by
 obtain ⟨i0,hi,hz0,hz1',hz2⟩:=info_parts TD
 obtain ⟨_,_,e0,hcap,hmax,hcs⟩:=id hl
 cases e0
 have HC:=Lib.hid hcs
 have hB0:Below w.heap.size w (w.alloc (.cells #[.int .i64 sn,.int .i64 sr,.int .i64 fi,.int .i64 ti] 109)):=(Below.refl _ _).alloc (Nat.le_refl _) _
 have hl0:=hl.below hB0
 have hm0:=hm.below hB0
 have d2:(w.alloc (.cells #[.int .i64 sn,.int .i64 sr,.int .i64 fi,.int .i64 ti] 109)).cell? ⟨w.heap.size,2,none⟩=some (.int .i64 fi):=by go_simp
 have d3:(w.alloc (.cells #[.int .i64 sn,.int .i64 sr,.int .i64 fi,.int .i64 ti] 109)).cell? ⟨w.heap.size,3,none⟩=some (.int .i64 ti):=by go_simp
 have hz:(w.alloc (.cells #[.int .i64 sn,.int .i64 sr,.int .i64 fi,.int .i64 ti] 109)).heap.size=w.heap.size+1:=by simp
 clear hcs
 by_cases hbad:fi<0∨ti<fi∨(l.length:Int)<ti
 ·have HR:Hid (∀ W,X7 w.heap.size W (.slice none 0 0) (Y9 l ms fi ti)):=Jh (fun W=>by
   rw[Y9,if_pos hbad]
   exact ⟨[],Own.nil,rfl,by simp⟩)
  by_cases h1:fi<0
  ·clear hbad
   go_enter Tryz.func54,Tryz.ntmps54
   go_wp2_with fail
   go_ret
   exact ⟨_,rfl,Jh (HR.out _),hB0⟩
  ·by_cases h2:ti<fi
   ·clear hbad
    go_enter Tryz.func54,Tryz.ntmps54
    go_wp2_with fail
    go_ret
    exact ⟨_,rfl,Jh (HR.out _),hB0⟩
   ·have h3:(l.length:Int)<ti:=by omega
    clear hbad
    go_enter Tryz.func54,Tryz.ntmps54
    go_wp2_with fail
    go_ret
    exact ⟨_,rfl,Jh (HR.out _),hB0⟩
 ·obtain ⟨f,rfl⟩:∃ f:Nat,fi=(f:Int):=⟨fi.toNat,by omega⟩
  obtain ⟨N,rfl⟩:∃ N:Nat,ti=(f:Int)+(N:Int):=⟨(ti - f).toNat,by omega⟩
  have HR:Hid (Y9 l ms f ((f:Int)+(N:Int))=Xg l ms f N):=Jh (by
   rw[Y9,if_neg hbad]
   have e1:((f:Int)+(N:Int)).toNat - (f:Int).toNat=N:=by omega
   rw[e1,Int.toNat_natCast])
  have hfN:f+N≤l.length:=by omega
  have i1:¬ (f:Int)<0:=by omega
  have i2:¬ (f:Int)+(N:Int)<(f:Int):=by omega
  have i3:¬ (l.length:Int)<(f:Int)+(N:Int):=by omega
  have i4:¬ (N:Int)<0:=by omega
  clear hbad
  obtain ⟨W0,hW0⟩:=Je (w.alloc (.cells #[.int .i64 sn,.int .i64 sr,.int .i64 f,.int .i64 ((f:Int)+(N:Int))] 109))
  rw[hW0] at hB0 hl0 hm0 d2 d3 hz
  have HW0:=Lib.hid hW0
  clear hW0
  go_enter Tryz.func54,Tryz.ntmps54
  go_upto_region 1 with fail
  rw[HW0.out]
  have hs1:w.heap.size+1≤W0.heap.size:=by omega
  have HL:=Lib.hid hl0
  have HM:=Lib.hid hm0
  have HB0:=Lib.hid hB0
  clear hl0 hm0 hB0
  go_wp2_with fail
  go_loopg [7,8] N (fun g out iv wr=>∃ n:Nat,g=N - n∧n≤N∧iv=.int .i64 ((f:Int)+(n:Int))∧Z3y l ms f ((f:Int)+(N:Int)) w n out wr)
  case atStart=>exact ⟨0,by omega,by omega,by simp,Lib.hid ⟨[],Own.nil,rfl,by simp⟩,d3,HB0.out,hs1⟩
  case round =>
   clear d2 d3 hs1
   obtain ⟨n,hg,hn,rfl,hP,e3,hB,hs⟩:=hrel
   have HG:=Lib.hid hg
   have HB:=Lib.hid hB
   by_cases hnN:n<N
   ·obtain ⟨x,hx⟩:∃ x,l[f+n]?=some x:=⟨_,List.getElem?_eq_getElem (by omega)⟩
    obtain ⟨b,o,rfl,hcc⟩:=HC.out (by intro e;rw[e] at hx;simp at hx)
    have hkp:∀ {b o u},w.cell? ⟨b,o,none⟩=some u→wr.cell? ⟨b,o,none⟩=some u:=fun h=>(World.cell?_of_block (w:=w) (hB.block _ (Zj h))).trans h
    have x2:wr.cell? ⟨b,o+(f+n)*4+2,none⟩=some (.int .i64 x.ch):=hkp (hcc (f+n) x hx 2 _ rfl)
    have x3:wr.cell? ⟨b,o+(f+n)*4+3,none⟩=some (.bool x.gone):=hkp (hcc (f+n) x hx 3 _ rfl)
    have hbw:b<w.heap.size:=Zj (hcc (f+n) x hx 2 _ rfl)
    have j1:(f:Int)+(n:Int)<(f:Int)+(N:Int):=by omega
    have j2:(f:Int)+(n:Int)<(l.length:Int):=by omega
    have j3:(0:Int)≤(f:Int)+(n:Int):=by omega
    have j4:((f:Int)+(n:Int)).toNat=f+n:=by omega
    have HS:=Jh (SH (ms:=ms) hx)
    have hlr:=hl.of (fun b o u h=>hkp h)
    have hmr:=hm.of (fun b o u h=>hkp h)
    clear hcc hkp hg hB hx
    by_cases hsk:x.ch=0∨x.gone=true
    ·have HSK:=Jh (Tb (al:=VB l ms (f+n)) (P:=Xg l ms f n) hsk)
     cases hgn:x.gone with
     | true =>
      rw[hgn] at x3
      clear hsk
      go_wp2_with fail
      go_roundg (N - (n+1))
      case measure=>rw[HG.out];omega
      case rel=>exact ⟨n+1,rfl,by omega,by simp;omega,Jh (by rw[HS.out,HSK.out];exact hP.out),e3,HB.out,hs⟩
     | false =>
      have hc0:x.ch=0:=by
       rcases hsk with h|h
       ·exact h
       ·rw[hgn] at h;cases h
      rw[hgn] at x3
      rw[hc0] at x2
      clear hsk
      go_wp2_with fail
      go_roundg (N - (n+1))
      case measure=>rw[HG.out];omega
      case rel=>exact ⟨n+1,rfl,by omega,by simp;omega,Jh (by rw[HS.out,HSK.out];exact hP.out),e3,HB.out,hs⟩
    ·have hc0:¬ x.ch=0:=fun e=>hsk (.inl e)
     have hgn:x.gone=false:=by
      cases h:x.gone with
      | false=>rfl
      | true=>exact absurd (.inr h) hsk
     rw[hgn] at x3
     have HK:=Lib.hid hsk
     clear hsk
     go_wp2_with fail
     have hhas:=Z28 (some ⟨b,o,none⟩) vb ca cb l ms ((f+n:Nat):Int) wr hlr hmr hln hmn (by omega) (by omega)
     rw[Int.natCast_add] at hhas
     refine hhas.mono ?_
     rintro e w2 ⟨u2,al,rfl,hA1,hAH,hb2⟩
     have hal:VB l ms (f+n)=al:=RH (by rw[Int.natCast_add];exact hAH.out)
     have HAL:=Lib.hid hal
     have hB2:=HB.out.trans (hb2.mono HB.out.size)
     have hA4:=hA1.mono hs
     have y2:=Z0 hb2 x2
     have e4:=Z0 hb2 e3
     have hs2:w.heap.size+1≤w2.heap.size:=Nat.le_trans hs hb2.size
     obtain ⟨vs,hO,hvl,hE⟩:=hP.out.ext hb2
     have hple:=S6 l ms f n
     have HSZ:=Jh (Uz l ms f n)
     obtain ⟨sl,rfl⟩:=hA1.sl
     have HE:=Lib.hid hE
     have HB2:=Lib.hid hB2
     have HA4:=Lib.hid hA4
     clear hal hA1 hAH hA4 hb2 hhas x2 x3 hP e3 hs HB hE hB2 hlr hmr
     generalize Xg l ms f n=P at *
     rcases Vc P with rfl|⟨Q,⟨t0,bl⟩,rfl⟩
     ·obtain rfl:vs=[]:=List.eq_nil_of_length_eq_zero (by simpa using hvl)
      obtain ⟨a8,c8,rfl,hc8,hm8,_⟩:=hO.slice Pc.len
      simp only[List.length_nil] at hO hc8 ⊢
      go_upto_region 12 with (at_builtin;refine Zo rfl _ _ _ rfl i0 (.agg #[.string ⟨#[]⟩,.slice none 0 0]) 40 Tryz.underlying25 hi hz0 hz1' hz2 rfl (by omega) Pc.len Pc.one rfl (hO.alloc _) ⟨⟨#[]⟩,sl⟩ w2.heap.size 1 rfl ?_ (by unfold maxLen;omega) (by omega) (by simp;omega) ?_)
      ·intro j u hj
       match j,hj with
       | 0,hj=>simp[Pc.cells] at hj;subst hj;go_simp
       | 1,hj=>simp[Pc.cells] at hj;subst hj;go_simp
       | n+2,hj=>simp[Pc.cells] at hj
      ·intro v' w3 hown hx3
       have hdis:∀ {k:Nat} {α:Type} {ea:α→List Value} {e:TypeId} {v:Value} {q:List α},Own ea k e (w.heap.size+1) w2 v q→e≠75→Own ea k e (w.heap.size+1) w3 v q:=fun h he=>(h.alloc _).ext hx3 (h.apart hO he)
       have hne:∀ b,Value.ownBlock (Value.slice a8 0 c8)=some b→w.heap.size+1≤b:=fun b hb=>(hO.blk b hb).1
       have HB3:=Jh (Ext.new (HB2.out.alloc (by omega) _) hx3 (fun i hi _ e=>by have:=hne _ e;omega) (by simp;omega))
       have e5:=hx3.keep (Z1 e4 _) (fun e=>by have:=hne _ e;omega)
       have y3:=hx3.keep (Z1 y2 _) (fun e=>by have:=hne _ e;omega)
       have hs3:w.heap.size+1≤w3.heap.size:=by have:=hx3.size;simp at this;omega
       obtain ⟨g,cap,nn,rfl⟩:∃ g c nn,v'=.slice (some ⟨g,0,none⟩) nn c:=by
        rcases hown.eq_slice with ⟨_,h⟩|⟨g,c,h,_⟩
        ·simp at h
        ·exact ⟨g,c,_,h⟩
       replace hown:Own Pc.cells 2 75 (w.heap.size+1) w3 (.slice (some ⟨g,0,none⟩) nn cap) (([]:List Pc)++[⟨⟨#[]⟩,sl⟩]):=by first|exact hown|(rw[List.append_assoc];exact hown)|simpa using hown
       have HE3:Hid (∀ (j:Nat) (y:Pc),(([]:List Pc)++[(⟨⟨#[]⟩,sl⟩:Pc)])[j]?=some y→∃ al',(([]:Pcs)++[((⟨#[]⟩:ByteArray),al)])[j]?=some (y.t,al')∧Own Atr.cells 2 73 (w.heap.size+1) w3 y.s.val al'):=Jh (fun j y hj=>by
        by_cases hjv:j<List.length ([]:List Pc)
        ·rw[List.getElem?_append_left hjv] at hj
         rw[List.getElem?_append_left (by rw[←hvl];exact hjv)]
         obtain ⟨al',h1,h2⟩:=HE.out j y hj
         exact ⟨al',h1,hdis h2 (by decide)⟩
        ·have hj2:j=List.length ([]:List Pc):=by
          have:=(List.getElem?_eq_some_iff.1 hj).1
          rw[List.length_append] at this
          have e1:List.length [(⟨⟨#[]⟩,sl⟩:Pc)]=1:=rfl
          rw[e1] at this
          omega
         subst hj2
         simp at hj
         subst hj
         rw[hvl]
         exact ⟨al,by simp,hdis HA4.out (by decide)⟩)
       clear hx3 hdis hne hO e4 y2 hs2 HB2 HA4  HE
       have HT0:Hid (ByteArray.size (⟨#[]⟩:ByteArray)≤1000):=Jh (by decide)
       have HLQ:Hid (List.length (α:=Pc) []=List.length (α:=ByteArray × List Atr) []):=Lib.hid rfl
       obtain ⟨k1,k2,k3,k4,k5,k6,k7,k8⟩:=Xl (Q:=[]) (x:=⟨⟨#[]⟩,sl⟩) hown
       obtain ⟨m,hmq⟩:∃ m,List.length (α:=Pc) []=m:=⟨_,rfl⟩
       have hmb:List.length (α:=Pc) []≤1000:=by first|omega|(simp at hvl;simp;omega)|simp
       rw[hmq] at k1 k6 k7 k8 hmb
       first|subst k1|(obtain rfl:m=m0:=by omega)
       simp only at k6
       have HMQ:=Lib.hid hmq
       clear hmq
       have hbw3:b<w3.heap.size:=by have:=HB3.out.size;omega
       have HST:Hid (YL x al ([])=([]:Pcs)++[((⟨#[]⟩:ByteArray)++chB x.ch,al)]):=Jh (by rw[UL HK.out,TM];rfl)
       have hsum:∀ W,(Op.stringOp .add ((⟨#[]⟩:ByteArray)) (chB x.ch)).run Tryz.prog W=.ok (.string (((⟨#[]⟩:ByteArray))++chB x.ch)) W:=fun W=>run_string_add_sum W _ _ (by have e1:(chB x.ch).size=1:=rfl;have e2:=HT0.out;omega)
       have hcv:∀ W,W.cell? ⟨w3.heap.size,0,none⟩=some (.int .u8 (x.ch % 256))→(convert 64 9 (.slice (some ⟨w3.heap.size,0,none⟩) 1 1)).run Tryz.prog W=.ok (.string (chB x.ch)) W:=fun W h=>Vm W _ _ h
       go_upto_region 12 with fail
       go_region
       have hcl:=Wt (t':=((⟨#[]⟩:ByteArray))++chB x.ch) (q1:=[]) (q2:=([]:Pcs)) hown HLQ.out HE3.out (.cells #[.int .u8 (x.ch % 256)] 5)
       rw[HMQ.out] at hcl
       have HCL:=Lib.hid hcl
       have hx4:Ext (·=g) w3 ((w3.setCell ⟨g,m*2,none⟩ (.string (((⟨#[]⟩:ByteArray))++chB x.ch))).alloc (.cells #[.int .u8 (x.ch % 256)] 5)).drew:=(((Ext.refl (·=g) w3).setCell (p:=⟨g,m*2,none⟩) (.inr rfl) _).alloc _).drew
       have hz4:=hx4.size
       clear hcl hown k6 k7 k8 hsum hcv y3 HE3
       go_wp2_with fail
       go_roundg (N - (n+1))
       case measure=>rw[HG.out];omega
       case rel=>exact ⟨n+1,rfl,by omega,by simp;omega,Jh (by rw[HS.out,HAL.out,HST.out];exact HCL.out), hx4.keep e5 (by omega),Ext.new HB3.out hx4 (fun i hi _ e=>by omega) (by omega),by omega⟩
     ·obtain ⟨vq,⟨pt,ps⟩,rfl⟩:∃ vq pc,vs=vq++[pc]:=by
       rcases Vc vs with rfl|h
       ·simp at hvl
       ·exact h
      have hvq:vq.length=Q.length:=by simpa using hvl
      obtain ⟨bl',hb1,hb2⟩:=HE.out vq.length ⟨pt,ps⟩ (by simp)
      rw[hvq] at hb1
      simp at hb1
      obtain ⟨rfl,rfl⟩:=hb1
      have HT1:Hid (ByteArray.size t0≤1000):=Jh (by have:=HSZ.out (t0,bl) (by simp);simp only at this;omega)
      obtain ⟨g0,c0,n0,rfl⟩:∃ g c nn,u7=.slice (some ⟨g,0,none⟩) nn c:=by
       rcases hO.eq_slice with ⟨_,h⟩|⟨g,c,h,_⟩
       ·simp at h
       ·exact ⟨g,c,_,h⟩
      obtain ⟨p1,p2,p3,p4,p5,p6,p7,p8⟩:=Xl hO
      obtain ⟨m0,hm0⟩:∃ m,vq.length=m:=⟨_,rfl⟩
      have hmb0:m0≤1000:=by simp at hple;omega
      rw[hm0] at p1 p6 p7 p8
      subst p1
      simp only at p6 p7
      have HM0:=Lib.hid hm0
      clear hm0
      have hbs:=hb2.slice (fun _=>rfl)
      have hAs:=HA4.out.slice (fun _=>rfl)
      simp only[Sl.val] at hbs hAs
      by_cases hbe:bl=al
      ·subst hbe
       go_wp2_with fail
       refine (Uh _ _ bl _ w2 hbs hAs).mono ?_
       rintro e w3 ⟨rfl,hb5⟩
       rw[decide_eq_true rfl]
       have hx5:Ext (fun _=>False) w2 w3:=Ext.of_below hb5
       have hown:=hO.ext hx5 (fun _ _ f=>f)
       have HE3:Hid (∀ (j:Nat) (y:Pc),(vq++[(⟨t0,ps⟩:Pc)])[j]?=some y→∃ al',(Q++[(t0,bl)])[j]?=some (y.t,al')∧Own Atr.cells 2 73 (w.heap.size+1) w3 y.s.val al'):=Jh (fun j y hj=>by
        obtain ⟨al',h1,h2⟩:=HE.out j y hj
        exact ⟨al',h1,h2.ext hx5 (fun _ _ f=>f)⟩)
       skip
       have e5:=Z0 hb5 e4
       have y3:=Z0 hb5 y2
       have HB3:=Jh (HB2.out.trans (hb5.mono HB2.out.size))
       have hs3:w.heap.size+1≤w3.heap.size:=Nat.le_trans hs2 hb5.size
       have HT0:=HT1
       have HLQ:=Lib.hid hvq
       clear hx5 hb5 hO HE e4 y2 hs2 HB2 hbs hAs hb2 HA4 p6 p7 p8 p4
       obtain ⟨k1,k2,k3,k4,k5,k6,k7,k8⟩:=Xl (Q:=vq) (x:=⟨t0,ps⟩) hown
       obtain ⟨m,hmq⟩:∃ m,List.length (α:=Pc) vq=m:=⟨_,rfl⟩
       have hmb:List.length (α:=Pc) vq≤1000:=by first|omega|(simp at hvl;simp;omega)|simp
       rw[hmq] at k1 k6 k7 k8 hmb
       first|subst k1|(obtain rfl:m=m0:=by omega)
       simp only at k6
       have HMQ:=Lib.hid hmq
       clear hmq
       have hbw3:b<w3.heap.size:=by have:=HB3.out.size;omega
       have HST:Hid (YL x bl (Q++[(t0,bl)])=Q++[(t0++chB x.ch,bl)]):=Jh (Tf HK.out)
       have hsum:∀ W,(Op.stringOp .add (t0) (chB x.ch)).run Tryz.prog W=.ok (.string ((t0)++chB x.ch)) W:=fun W=>run_string_add_sum W _ _ (by have e1:(chB x.ch).size=1:=rfl;have e2:=HT0.out;omega)
       have hcv:∀ W,W.cell? ⟨w3.heap.size,0,none⟩=some (.int .u8 (x.ch % 256))→(convert 64 9 (.slice (some ⟨w3.heap.size,0,none⟩) 1 1)).run Tryz.prog W=.ok (.string (chB x.ch)) W:=fun W h=>Vm W _ _ h
       go_upto_region 12 with fail
       go_region
       have hcl:=Wt (t':=(t0)++chB x.ch) (q1:=vq) (q2:=Q) hown HLQ.out HE3.out (.cells #[.int .u8 (x.ch % 256)] 5)
       rw[HMQ.out] at hcl
       have HCL:=Lib.hid hcl
       have hx4:Ext (·=g0) w3 ((w3.setCell ⟨g0,m*2,none⟩ (.string ((t0)++chB x.ch))).alloc (.cells #[.int .u8 (x.ch % 256)] 5)).drew:=(((Ext.refl (·=g0) w3).setCell (p:=⟨g0,m*2,none⟩) (.inr rfl) _).alloc _).drew
       have hz4:=hx4.size
       clear hcl hown k6 k7 k8 hsum hcv y3 HE3
       go_wp2_with fail
       go_roundg (N - (n+1))
       case measure=>rw[HG.out];omega
       case rel=>exact ⟨n+1,rfl,by omega,by simp;omega,Jh (by rw[HS.out,HAL.out,HST.out];exact HCL.out), hx4.keep e5 (by omega),Ext.new HB3.out hx4 (fun i hi _ e=>by omega) (by omega),by omega⟩
      ·go_wp2_with fail
       refine (Uh _ _ bl _ w2 hbs hAs).mono ?_
       rintro e w5 ⟨rfl,hb5⟩
       rw[decide_eq_false hbe]
       have hx5:Ext (fun _=>False) w2 w5:=Ext.of_below hb5
       replace hO:=hO.ext hx5 (fun _ _ f=>f)
       have HE':Hid (∀ (j:Nat) (y:Pc),(vq++[(⟨t0,ps⟩:Pc)])[j]?=some y→∃ al',(Q++[(t0,bl)])[j]?=some (y.t,al')∧Own Atr.cells 2 73 (w.heap.size+1) w5 y.s.val al'):=Jh (fun j y hj=>by
        obtain ⟨al',h1,h2⟩:=HE.out j y hj
        exact ⟨al',h1,h2.ext hx5 (fun _ _ f=>f)⟩)
       replace HE:=HE'
       replace HA4:=Jh (HA4.out.ext hx5 (fun _ _ f=>f))
       skip
       replace e4:=Z0 hb5 e4
       replace y2:=Z0 hb5 y2
       replace HB2:=Jh (HB2.out.trans (hb5.mono HB2.out.size))
       replace hs2:w.heap.size+1≤w5.heap.size:=Nat.le_trans hs2 hb5.size
       have hvs8:(vq++[(⟨t0,ps⟩:Pc)]).length≤1000:=by rw[hvl];omega
       clear hx5 hb5 HE' hbs hAs hb2 p6 p7 p8 p4
       go_upto_region 12 with (at_builtin;refine Zo rfl _ _ _ rfl i0 (.agg #[.string ⟨#[]⟩,.slice none 0 0]) 40 Tryz.underlying25 hi hz0 hz1' hz2 rfl (by omega) Pc.len Pc.one rfl (hO.alloc _) ⟨⟨#[]⟩,sl⟩ w5.heap.size 1 rfl ?_ (by unfold maxLen;omega) (by omega) (by simp;omega) ?_)
       ·intro j u hj
        match j,hj with
        | 0,hj=>simp[Pc.cells] at hj;subst hj;go_simp
        | 1,hj=>simp[Pc.cells] at hj;subst hj;go_simp
        | n+2,hj=>simp[Pc.cells] at hj
       ·intro v' w3 hown hx3
        have hdis:∀ {k:Nat} {α:Type} {ea:α→List Value} {e:TypeId} {v:Value} {q:List α},Own ea k e (w.heap.size+1) w5 v q→e≠75→Own ea k e (w.heap.size+1) w3 v q:=fun h he=>(h.alloc _).ext hx3 (h.apart hO he)
        have hne:∀ b,Value.ownBlock (Value.slice (some ⟨g0,0,none⟩) (m0+1) c0)=some b→w.heap.size+1≤b:=fun b hb=>(hO.blk b hb).1
        have HB3:=Jh (Ext.new (HB2.out.alloc (by omega) _) hx3 (fun i hi _ e=>by have:=hne _ e;omega) (by simp;omega))
        have e5:=hx3.keep (Z1 e4 _) (fun e=>by have:=hne _ e;omega)
        have y3:=hx3.keep (Z1 y2 _) (fun e=>by have:=hne _ e;omega)
        have hs3:w.heap.size+1≤w3.heap.size:=by have:=hx3.size;simp at this;omega
        obtain ⟨g,cap,nn,rfl⟩:∃ g c nn,v'=.slice (some ⟨g,0,none⟩) nn c:=by
         rcases hown.eq_slice with ⟨_,h⟩|⟨g,c,h,_⟩
         ·simp at h
         ·exact ⟨g,c,_,h⟩
        replace hown:Own Pc.cells 2 75 (w.heap.size+1) w3 (.slice (some ⟨g,0,none⟩) nn cap) ((vq++[(⟨t0,ps⟩:Pc)])++[⟨⟨#[]⟩,sl⟩]):=by first|exact hown|(rw[List.append_assoc];exact hown)|simpa using hown
        have HE3:Hid (∀ (j:Nat) (y:Pc),((vq++[(⟨t0,ps⟩:Pc)])++[(⟨⟨#[]⟩,sl⟩:Pc)])[j]?=some y→∃ al',((Q++[(t0,bl)])++[((⟨#[]⟩:ByteArray),al)])[j]?=some (y.t,al')∧Own Atr.cells 2 73 (w.heap.size+1) w3 y.s.val al'):=Jh (fun j y hj=>by
         by_cases hjv:j<List.length (vq++[(⟨t0,ps⟩:Pc)])
         ·rw[List.getElem?_append_left hjv] at hj
          rw[List.getElem?_append_left (by rw[←hvl];exact hjv)]
          obtain ⟨al',h1,h2⟩:=HE.out j y hj
          exact ⟨al',h1,hdis h2 (by decide)⟩
         ·have hj2:j=List.length (vq++[(⟨t0,ps⟩:Pc)]):=by
           have:=(List.getElem?_eq_some_iff.1 hj).1
           rw[List.length_append] at this
           have e1:List.length [(⟨⟨#[]⟩,sl⟩:Pc)]=1:=rfl
           rw[e1] at this
           omega
          subst hj2
          simp at hj
          subst hj
          rw[hvl]
          exact ⟨al,by simp,hdis HA4.out (by decide)⟩)
        clear hx3 hdis hne hO e4 y2 hs2 HB2 HA4  HE
        have HT0:Hid (ByteArray.size (⟨#[]⟩:ByteArray)≤1000):=Jh (by decide)
        have HLQ:=Lib.hid hvl
        obtain ⟨k1,k2,k3,k4,k5,k6,k7,k8⟩:=Xl (Q:=(vq++[(⟨t0,ps⟩:Pc)])) (x:=⟨⟨#[]⟩,sl⟩) hown
        obtain ⟨m,hmq⟩:∃ m,List.length (α:=Pc) (vq++[(⟨t0,ps⟩:Pc)])=m:=⟨_,rfl⟩
        have hmb:List.length (α:=Pc) (vq++[(⟨t0,ps⟩:Pc)])≤1000:=by first|omega|(simp at hvl;simp;omega)|simp
        rw[hmq] at k1 k6 k7 k8 hmb
        first|subst k1|(obtain rfl:m=m0:=by omega)
        simp only at k6
        have HMQ:=Lib.hid hmq
        clear hmq
        have hbw3:b<w3.heap.size:=by have:=HB3.out.size;omega
        have HST:Hid (YL x al (Q++[(t0,bl)])=(Q++[(t0,bl)])++[((⟨#[]⟩:ByteArray)++chB x.ch,al)]):=Jh (by rw[TE HK.out hbe,TM])
        have hsum:∀ W,(Op.stringOp .add ((⟨#[]⟩:ByteArray)) (chB x.ch)).run Tryz.prog W=.ok (.string (((⟨#[]⟩:ByteArray))++chB x.ch)) W:=fun W=>run_string_add_sum W _ _ (by have e1:(chB x.ch).size=1:=rfl;have e2:=HT0.out;omega)
        have hcv:∀ W,W.cell? ⟨w3.heap.size,0,none⟩=some (.int .u8 (x.ch % 256))→(convert 64 9 (.slice (some ⟨w3.heap.size,0,none⟩) 1 1)).run Tryz.prog W=.ok (.string (chB x.ch)) W:=fun W h=>Vm W _ _ h
        go_upto_region 12 with fail
        go_region
        have hcl:=Wt (t':=((⟨#[]⟩:ByteArray))++chB x.ch) (q1:=(vq++[(⟨t0,ps⟩:Pc)])) (q2:=(Q++[(t0,bl)])) hown HLQ.out HE3.out (.cells #[.int .u8 (x.ch % 256)] 5)
        rw[HMQ.out] at hcl
        have HCL:=Lib.hid hcl
        have hx4:Ext (·=g) w3 ((w3.setCell ⟨g,m*2,none⟩ (.string (((⟨#[]⟩:ByteArray))++chB x.ch))).alloc (.cells #[.int .u8 (x.ch % 256)] 5)).drew:=(((Ext.refl (·=g) w3).setCell (p:=⟨g,m*2,none⟩) (.inr rfl) _).alloc _).drew
        have hz4:=hx4.size
        clear hcl hown k6 k7 k8 hsum hcv y3 HE3
        go_wp2_with fail
        go_roundg (N - (n+1))
        case measure=>rw[HG.out];omega
        case rel=>exact ⟨n+1,rfl,by omega,by simp;omega,Jh (by rw[HS.out,HAL.out,HST.out];exact HCL.out), hx4.keep e5 (by omega),Ext.new HB3.out hx4 (fun i hi _ e=>by omega) (by omega),by omega⟩
   ·obtain rfl:n=N:=by omega
    clear hg hB
    go_wp2_with fail
    go_ret
    refine ⟨_,rfl,Lib.hid ?_,HB.out⟩
    rw[HR.out]
    obtain ⟨vs,hO,hvl,hE⟩:=hP.out
    refine ⟨vs,hO.mono (by omega),hvl,fun j x hj=>?_⟩
    obtain ⟨al,h1,h2⟩:=hE j x hj
    exact ⟨al,h1,h2.mono (by omega)⟩
end Go.Proofs.YtlgipkemoldckaaGreatDoor
namespace Go.Proofs.YtlgipkemoldckaaGreatDoor
open Go.ChangeShapes Go.WideShapes Go.RowKit Go.Deep
theorem X7.shape {base:Nat} {W:World} {u:Value} {P:Pcs} (h:X7 base W u P):∃ a c,u=.slice a P.length c∧P.length≤c∧c≤maxLen:=by
 obtain ⟨vs,h1,h2,h3⟩:=h
 obtain ⟨a,c,rfl,hc,hm,hh⟩:=h1.slice Pc.len
 exact ⟨a,c,by rw[h2],by omega,hm⟩
end Go.Proofs.YtlgipkemoldckaaGreatDoor
namespace Go.Proofs.YtlgipkemoldckaaGreatDoor
open Go.RowKit
section
variable {P:Program} {w:World} {α:Type} {ea:α→List Value} {k:Nat} {e:TypeId} {base:Nat} {v vx:Value} {l ys:List α}
theorem Vu (t ty:TypeId) (i:TypeInfo) (ht:P.underlying t=some (.slice e)) (hi:P.info? e=some i) (b:Option Addr) (n cap c:Nat) (hc:n≤cap) :
  (Builtin.append_ #[t,t] ty #[.slice b n cap,.slice none 0 c]).run P w=.ok (.slice b n cap) w:=by
 cases b <;> simp[Builtin.append_,run_underlying ht,sizeOf,typeInfo,hi,Builtin.lenOf,Builtin.firstCells,loadCells,loadCellsFrom,storeCells,hc]
theorem Sb (t ty:TypeId) (i:TypeInfo) (z:Value) (bytes:Nat) (ht:P.underlying t=some (.slice e)) (hi:P.info? e=some i) (hz:i.zero=some z)
  (hsize:i.size=k) (hby:i.bytes=bytes) (hzs:z.cells.size=k) (hk0:0<k) (hk:∀ x,(ea x).length=k) (h1:∀ x,∀ u∈ea x,u.oneCell'=true)
  (hown:Own ea k e base w v l) (hx:Z4 ea k w vx ys) (h63:l.length+ys.length≤maxLen) (hbytes:(l.length+ys.length)*bytes≤140737488355328) (hbase:base≤w.heap.size) :
  ∃ v' w',(Builtin.append_ #[t,t] ty #[v,vx]).run P w=.ok v' w'∧Own ea k e base w' v' (l++ys)∧Ext (fun b=>v.ownBlock=some b) w w':=by
 obtain ⟨a,cap,rfl,hcap,hmax,hcs⟩:=hx
 cases a with
 | none =>
  have hys:ys=[]:=Classical.byContradiction fun hn=>by obtain ⟨b,o,e,_⟩:=hcs hn;cases e
  subst hys
  obtain ⟨sa,sc,rfl,hsc,_⟩:=hown.slice hk
  refine ⟨_,w,Vu t ty i ht hi sa l.length sc cap hsc,by rw[List.append_nil];exact hown,Ext.refl _ _⟩
 | some ad =>
  have hnews:∀ j u,(ys.flatMap ea)[j]?=some u→w.cell? (ad.add j)=some u:=fun j u hj=>by
   have hne:ys≠[]:=fun e=>by rw[e] at hj;simp at hj
   obtain ⟨b,o,e,h2⟩:=hcs hne
   cases e
   have hjl:=(List.getElem?_eq_some_iff.1 hj).1
   rw[ZY hk] at hjl
   have hdm:j / k*k+j % k=j:=by rw[Nat.mul_comm];exact Nat.div_add_mod j k
   have hq:j / k<ys.length:=Nat.div_lt_of_lt_mul (by rw[Nat.mul_comm];exact hjl)
   obtain ⟨x,hx⟩:∃ x,ys[j / k]?=some x:=⟨_,List.getElem?_eq_getElem hq⟩
   obtain ⟨u',hu'⟩:∃ u',(ea x)[j % k]?=some u':=⟨_,List.getElem?_eq_getElem (by rw[hk];exact Nat.mod_lt _ hk0)⟩
   have h3:=getElem?_flatMap_k hk ys (j / k) x hx (j % k) u' hu'
   rw[hdm,hj] at h3
   cases h3
   have h4:=h2 (j / k) x hx (j % k) u hu'
   rw[Nat.add_assoc,hdm] at h4
   rw[show (Addr.add ⟨b,o,none⟩ j)=⟨b,o+j,none⟩ from by unfold Addr.add;split <;> simp_all]
   exact h4
  obtain ⟨v',w',h2,h3,h4,_⟩:=run_append_own (P:=P) w base t ty e i z k bytes ht hi hz hsize hby hzs hk0 v l.length (l.flatMap ea) hown ad ys.length cap (ys.flatMap ea) (ZY hk ys) hnews
   (fun u hu=>by obtain ⟨x,_,hx⟩:=List.mem_flatMap.1 hu;exact h1 x u hx) h63 hbytes hbase
  refine ⟨v',w',h2,?_,Ext.of_grown h4⟩
  unfold Own
  rw[List.length_append,List.flatMap_append]
  exact h3
end
section
variable {P:Program} {ops:Array Oper} {Q:Exit→Act→World→Prop} {md:Region.Mode} {S:World→Prop}
end
inductive Nd where
 | mk (id:St) (kind:ByteArray) (attrs:List Atr) (text:Pcs) (kids:List Nd)
def Nd.id:Nd→St|.mk i _ _ _ _=>i
def Nd.kind:Nd→ByteArray|.mk _ k _ _ _=>k
def Nd.attrs:Nd→List Atr|.mk _ _ a _ _=>a
def Nd.text:Nd→Pcs|.mk _ _ _ t _=>t
def Nd.kids:Nd→List Nd|.mk _ _ _ _ l=>l
structure NdV where
 id:St
 kind:ByteArray
 attrs:Sl
 text:Sl
 kids:Sl
def NdV.cells (x:NdV):List Value:=[.int .i64 x.id.n,.int .i64 x.id.r,.string x.kind,.slice x.attrs.a x.attrs.n x.attrs.cap,.slice x.text.a x.text.n x.text.cap,.slice x.kids.a x.kids.n x.kids.cap]
theorem NdV.len (x:NdV):x.cells.length=6:=rfl
theorem NdV.one (x:NdV):∀ u∈x.cells,u.oneCell'=true:=by
 intro u hu
 simp only[NdV.cells,List.mem_cons,List.not_mem_nil,or_false] at hu
 rcases hu with rfl|rfl|rfl|rfl|rfl|rfl <;> rfl
def Zu {α:Type} (D:Nat→Prop) (ea:α→List Value) (k:Nat) (W:World) (v:Value) (l:List α):Prop :=
 Z4 ea k W v l∧∀ b o n c,v=.slice (some ⟨b,o,none⟩) n c→l≠[]→D b
theorem Zu.mono {α:Type} {D D':Nat→Prop} {ea:α→List Value} {k:Nat} {W:World} {v:Value} {l:List α} (h:Zu D ea k W v l) (hd:∀ b,D b→D' b):Zu D' ea k W v l :=
 ⟨h.1,fun b o n c e hl=>hd b (h.2 b o n c e hl)⟩
theorem Zu.ext {α:Type} {D S:Nat→Prop} {ea:α→List Value} {k:Nat} {W W':World} {v:Value} {l:List α} (h:Zu D ea k W v l) (hx:Ext S W W') (hd:∀ b,D b→b<W.heap.size→¬ S b) (hk:∀ x,0<(ea x).length):Zu D ea k W' v l:=by
 obtain ⟨⟨a,cap,rfl,h2,h3,h4⟩,h5⟩:=h
 refine ⟨⟨a,cap,rfl,h2,h3,fun hl=>?_⟩,h5⟩
 obtain ⟨b,off,rfl,h6⟩:=h4 hl
 refine ⟨b,off,rfl,fun i x hi j u hj=>hx.keep (h6 i x hi j u hj) (hd b (h5 b off _ _ rfl hl) (Zj (h6 i x hi j u hj)))⟩
theorem Own.sliceD {α:Type} {ea:α→List Value} {k:Nat} {e:TypeId} {base:Nat} {w:World} {v:Value} {l:List α} (h:Own ea k e base w v l) (hk:∀ x,(ea x).length=k):Zu (fun b=>v.ownBlock=some b) ea k w v l:=by
 refine ⟨h.slice hk,fun b o n c e1 hl=>?_⟩
 rcases h.eq_slice with ⟨e2,e3⟩|⟨g,cap,e2,_,_⟩
 ·exact absurd e3 hl
 ·rw[e1] at e2
  cases e2
  rw[e1]
  rfl
def Y4 (D:Nat→Prop) (W:World) (u:Value) (P:Pcs):Prop :=
 ∃ vs:List Pc,Zu D Pc.cells 2 W u vs∧vs.length=P.length∧∀ (j:Nat) (x:Pc),vs[j]?=some x→∃ al,P[j]?=some (x.t,al)∧Zu D Atr.cells 2 W (.slice x.s.a x.s.n x.s.cap) al
theorem Y4.mono {D D':Nat→Prop} {W:World} {u:Value} {P:Pcs} (h:Y4 D W u P) (hd:∀ b,D b→D' b):Y4 D' W u P:=by
 obtain ⟨vs,h1,h2,h3⟩:=h
 refine ⟨vs,h1.mono hd,h2,fun j x hj=>?_⟩
 obtain ⟨al,h4,h5⟩:=h3 j x hj
 exact ⟨al,h4,h5.mono hd⟩
theorem Y4.ext {D S:Nat→Prop} {W W':World} {u:Value} {P:Pcs} (h:Y4 D W u P) (hx:Ext S W W') (hd:∀ b,D b→b<W.heap.size→¬ S b):Y4 D W' u P:=by
 obtain ⟨vs,h1,h2,h3⟩:=h
 refine ⟨vs,h1.ext hx hd (fun _=>Nat.zero_lt_succ 1),h2,fun j x hj=>?_⟩
 obtain ⟨al,h4,h5⟩:=h3 j x hj
 exact ⟨al,h4,h5.ext hx hd (fun _=>Nat.zero_lt_succ 1)⟩
theorem X7.toD {base:Nat} {W:World} {u:Value} {P:Pcs} (h:X7 base W u P):Y4 (fun b=>base≤b∧b<W.heap.size) W u P:=by
 obtain ⟨vs,h1,h2,h3⟩:=h
 refine ⟨vs,(h1.sliceD Pc.len).mono (fun b hb=>h1.blk b hb),h2,fun j x hj=>?_⟩
 obtain ⟨al,h4,h5⟩:=h3 j x hj
 exact ⟨al,h4,(h5.sliceD (fun _=>rfl)).mono (fun b hb=>h5.blk b hb)⟩
inductive Zr (D:Nat→Prop) (W:World):NdV→Nd→Prop
 | mk (x:NdV) (al:List Atr) (P:Pcs) (vs:List NdV) (ks:List Nd):Zu D Atr.cells 2 W (.slice x.attrs.a x.attrs.n x.attrs.cap) al→Y4 D W (.slice x.text.a x.text.n x.text.cap) P →
   Zu D NdV.cells 6 W (.slice x.kids.a x.kids.n x.kids.cap) vs→vs.length=ks.length→(∀ (i:Nat) (y:NdV) (n:Nd),vs[i]?=some y→ks[i]?=some n→Zr D W y n)→Zr D W x (.mk x.id x.kind al P ks)
def Zb (D:Nat→Prop) (W:World) (vs:List NdV) (ks:List Nd):Prop:=vs.length=ks.length∧∀ (i:Nat) (y:NdV) (n:Nd),vs[i]?=some y→ks[i]?=some n→Zr D W y n
theorem Zr.mono {D D':Nat→Prop} {W:World} {x:NdV} {n:Nd} (h:Zr D W x n) (hd:∀ b,D b→D' b):Zr D' W x n:=by
 induction h with
 | mk x al P vs ks h1 h2 h3 h4 h5 ih=>exact .mk x al P vs ks (h1.mono hd) (h2.mono hd) (h3.mono hd) h4 ih
theorem Zr.ext {D S:Nat→Prop} {W W':World} {x:NdV} {n:Nd} (h:Zr D W x n) (hx:Ext S W W') (hd:∀ b,D b→b<W.heap.size→¬ S b):Zr D W' x n:=by
 induction h with
 | mk x al P vs ks h1 h2 h3 h4 h5 ih=>exact .mk x al P vs ks (h1.ext hx hd (fun _=>Nat.zero_lt_succ 1)) (h2.ext hx hd) (h3.ext hx hd (fun _=>Nat.zero_lt_succ 5)) h4 ih
theorem Zr.belowW {D:Nat→Prop} {W W':World} {x:NdV} {n:Nd} (h:Zr D W x n) (hb:Below W.heap.size W W'):Zr D W' x n :=
 h.ext (Ext.of_below (S:=fun _=>False) hb) (fun _ _ _ f=>f)
theorem Zb.mono {D D':Nat→Prop} {W:World} {vs:List NdV} {ks:List Nd} (h:Zb D W vs ks) (hd:∀ b,D b→D' b):Zb D' W vs ks:=⟨h.1,fun i y n h1 h2=>(h.2 i y n h1 h2).mono hd⟩
theorem Zb.ext {D S:Nat→Prop} {W W':World} {vs:List NdV} {ks:List Nd} (h:Zb D W vs ks) (hx:Ext S W W') (hd:∀ b,D b→b<W.heap.size→¬ S b):Zb D W' vs ks:=⟨h.1,fun i y n h1 h2=>(h.2 i y n h1 h2).ext hx hd⟩
theorem Zb.below {D:Nat→Prop} {W W':World} {vs:List NdV} {ks:List Nd} (h:Zb D W vs ks) (hb:Below W.heap.size W W'):Zb D W' vs ks:=⟨h.1,fun i y n h1 h2=>(h.2 i y n h1 h2).belowW hb⟩
theorem Zb.nil {D:Nat→Prop} {W:World}:Zb D W [] []:=⟨rfl,fun i y n h=>by simp at h⟩
theorem Zb.append {D:Nat→Prop} {W:World} {vs us:List NdV} {ks ls:List Nd} (h:Zb D W vs ks) (k:Zb D W us ls):Zb D W (vs++us) (ks++ls):=by
 refine ⟨by rw[List.length_append,List.length_append,h.1,k.1],fun i y n h1 h2=>?_⟩
 by_cases hi:i<vs.length
 ·rw[List.getElem?_append_left hi] at h1
  rw[List.getElem?_append_left (by rw[←h.1];exact hi)] at h2
  exact h.2 i y n h1 h2
 ·rw[List.getElem?_append_right (by omega)] at h1
  rw[List.getElem?_append_right (by rw[←h.1];omega),←h.1] at h2
  exact k.2 _ y n h1 h2
theorem Zb.one {D:Nat→Prop} {W:World} {x:NdV} {n:Nd} (h:Zr D W x n):Zb D W [x] [n]:=by
 refine ⟨rfl,fun i y m h1 h2=>?_⟩
 match i with
 | 0=>simp at h1 h2;subst h1;subst h2;exact h
 | i+1=>simp at h1
theorem Zr.parts {D:Nat→Prop} {W:World} {x:NdV} {n:Nd} (h:Zr D W x n):x.id=n.id∧x.kind=n.kind∧Zu D Atr.cells 2 W (.slice x.attrs.a x.attrs.n x.attrs.cap) n.attrs∧Y4 D W (.slice x.text.a x.text.n x.text.cap) n.text ∧
  ∃ vs,Zu D NdV.cells 6 W (.slice x.kids.a x.kids.n x.kids.cap) vs∧Zb D W vs n.kids:=by
 cases h with
 | mk x al P vs ks h1 h2 h3 h4 h5=>exact ⟨rfl,rfl,h1,h2,vs,h3,h4,h5⟩
theorem Zr.make {D:Nat→Prop} {W:World} {x:NdV} {id:St} {kind:ByteArray} {al:List Atr} {P:Pcs} {vs:List NdV} {ks:List Nd} (e1:x.id=id) (e2:x.kind=kind) (h1:Zu D Atr.cells 2 W (.slice x.attrs.a x.attrs.n x.attrs.cap) al) (h2:Y4 D W (.slice x.text.a x.text.n x.text.cap) P)
  (h3:Zu D NdV.cells 6 W (.slice x.kids.a x.kids.n x.kids.cap) vs) (h4:Zb D W vs ks):Zr D W x (.mk id kind al P ks):=by
 subst e1;subst e2
 exact .mk x al P vs ks h1 h2 h3 h4.1 h4.2
def VV (l:List El) (A:List Ch) (b:St):Prop:=b≠⟨0,0⟩∧(X2 l b=true∨∃ d∈A,d.under=b)
def ZD (b:St):Ch:=⟨b,⟨0,0⟩,⟨#[]⟩⟩
open Classical in
noncomputable def Y2 (l:List El) (h:Zi) (A:List Ch):Zi:=fun b=>match h b with
 | some c=>some c
 | none=>if VV l A b then some (ZD b) else none
theorem Ve {l:List El} {h:Zi} {A:List Ch} {b:St} {c:Ch} (e:h b=some c):Y2 l h A b=some c:=by
 unfold Y2;rw[e]
theorem V3 {l:List El} {h:Zi} {A:List Ch} {b:St} (e:h b=none) (k:VV l A b):Y2 l h A b=some (ZD b):=by
 unfold Y2;rw[e];exact if_pos k
theorem WG {l:List El} {h:Zi} {A:List Ch} {b:St} (e:h b=none) (k:¬ VV l A b):Y2 l h A b=none:=by
 unfold Y2;rw[e];exact if_neg k
theorem YI {l:List El} {h:Zi} {A:List Ch} (e:h ⟨0,0⟩=none):Y2 l h A ⟨0,0⟩=none:=WG e (fun k=>k.1 rfl)
theorem Ww {l:List El} {h:Zi} {A:List Ch} (hk:ZV h):ZV (Y2 l h A):=by
 intro b c hc
 cases e:h b with
 | some d=>rw[Ve e] at hc;cases hc;exact hk b _ e
 | none =>
  by_cases k:VV l A b
  ·rw[V3 e k] at hc;cases hc;rfl
  ·rw[WG e k] at hc;cases hc
theorem Ws {l:List El} {h:Zi} {A:List Ch} (ha:XA h) (h0:h ⟨0,0⟩=none):XA (Y2 l h A):=by
 have key:∀ n u,Y6 h n u→∃ m,Y6 (Y2 l h A) m u:=fun n=>by
  induction n with
  | zero =>
   intro u hu
   by_cases k:VV l A u
   ·exact ⟨1,ZD u,V3 hu k,YI h0⟩
   ·exact ⟨0,WG hu k⟩
  | succ n ih =>
   rintro u ⟨c,hc,he⟩
   obtain ⟨m,hm⟩:=ih _ he
   exact ⟨m+1,c,Ve hc,hm⟩
 intro u
 obtain ⟨n,hn⟩:=ha u
 exact key n u hn
noncomputable def Yr (H:Zi) (u:St):List Ch:=@dite _ (∃ l,WF H u l) (Classical.propDecidable _) (fun h=>Classical.choose h) (fun _=>[])
theorem Tk {H:Zi} {u:St} {l:List Ch} (h:WF H u l):Yr H u=l:=by
 have h1:∃ l,WF H u l:=⟨l,h⟩
 unfold Yr
 rw[dif_pos h1]
 exact (Classical.choose_spec h1).unique h
theorem XK {H:Zi} {u:St} {c:Ch} (h:c∈Yr H u):H c.block=some c∧c.under=u:=by
 unfold Yr at h
 split at h
 ·rename_i h1;exact ((Classical.choose_spec h1).1 c).1 h
 ·simp at h
theorem Q8 (H:Zi) (u:St):(Yr H u).Pairwise (fun a b=>a≠b):=by
 unfold Yr
 split
 ·rename_i h1
  exact (Classical.choose_spec h1).2.imp (fun {a b} h e=>by rw[e] at h;exact XO _ h)
 ·exact List.Pairwise.nil
def Zw:ByteArray:=⟨#[112,97,114,97]⟩
def Va:ByteArray:=⟨#[107,105,110,100]⟩
def Y8 (p:ByteArray × List Atr) (a:Atr):ByteArray × List Atr :=
 if a.value=⟨#[]⟩ then p else if a.name=Va then (a.value,p.2) else (p.1,p.2++[a])
def Yu (l:List Atr):ByteArray × List Atr:=l.foldl Y8 (Zw,[])
structure Vw where
 live:St→Bool
 regs:St→List Atr
 txt:St→Pcs
 H:Zi
def Vw.nd (V:Vw) (s:St) (ks:List Nd):Nd:=.mk s (Yu (V.regs s)).1 (Yu (V.regs s)).2 (V.txt s) ks
noncomputable def Vw.row (V:Vw):Nat→St→List Nd
 | 0,_=>[]
 | n+1,b=>(Yr V.H b).flatMap fun c=>if V.live c.block=true then [V.nd c.block (V.row n c.block)] else V.row n c.block
noncomputable def Vw.one (V:Vw) (n:Nat) (s:St):List Nd:=if V.live s=true then [V.nd s (V.row n s)] else V.row n s
theorem Vw.row_succ (V:Vw) (n:Nat) (b:St):V.row (n+1) b=(Yr V.H b).flatMap fun c=>V.one n c.block:=rfl
noncomputable def Vw.ids (V:Vw):Nat→St→List St
 | 0,_=>[]
 | n+1,b=>(Yr V.H b).flatMap fun c=>(if V.live c.block=true then [c.block] else [])++V.ids n c.block
theorem Vw.row_len (V:Vw):∀ n b,(V.row n b).length≤(V.ids n b).length
 | 0,b=>by simp[Vw.row]
 | n+1,b=>by
  rw[Vw.row,Vw.ids]
  generalize Yr V.H b=K
  induction K with
  | nil=>simp
  | cons c K ih =>
   rw[List.flatMap_cons,List.flatMap_cons,List.length_append,List.length_append,List.length_append]
   have:=V.row_len n c.block
   by_cases hl:V.live c.block=true
   ·rw[if_pos hl,if_pos hl]
    simp only[List.length_singleton]
    omega
   ·rw[if_neg hl,if_neg hl]
    simp only[List.length_nil]
    omega
theorem S5 {h:Zi} {s x:St} (hu:Up h s x):∀ k,Y6 h k s→∃ j,j≤k∧Y6 h j x∧(j=k→x=s):=by
 induction hu with
 | refl u=>exact fun k hk=>⟨k,Nat.le_refl _,hk,fun _=>rfl⟩
 | step hc _ ih =>
  intro k hk
  obtain ⟨k',rfl,hk'⟩:=Sh hk hc
  obtain ⟨j,h1,h2,_⟩:=ih k' hk'
  exact ⟨j,by omega,h2,fun e=>absurd e (by omega)⟩
theorem Z33 {h:Zi} {s x y:St} (hx:Up h s x):∀ {r},Up h s y→Y6 h r x→Y6 h r y→x=y:=by
 induction hx with
 | refl u =>
  intro r hy e1 e2
  obtain ⟨j,h1,h2,h3⟩:=S5 hy r e1
  exact (h3 (XQ _ _ _ h2 e2)).symm
 | step hc hx ih =>
  rename_i u b c
  intro r hy e1 e2
  cases hy with
  | refl =>
   obtain ⟨j,h1,h2,h3⟩:=S5 (Up.step hc hx) r e2
   exact h3 (XQ _ _ _ h2 e1)
  | step hc' hy =>
   rw[hc] at hc';cases hc'
   exact ih hy e1 e2
theorem Rj {h:Zi} {a b c:St} (h1:Up h a b) (h2:Up h b c):Up h a c:=by
 induction h1 with
 | refl=>exact h2
 | step hc _ ih=>exact .step hc (ih h2)
theorem Vw.ids_sub {V:Vw}:∀ {n b s},s∈V.ids n b→∃ c,V.H c.block=some c∧c.under=b∧Up V.H s c.block
 | 0,b,s,h=>by simp[Vw.ids] at h
 | n+1,b,s,h=>by
  rw[Vw.ids,List.mem_flatMap] at h
  obtain ⟨c,hc,hs⟩:=h
  obtain ⟨h1,h2⟩:=XK hc
  refine ⟨c,h1,h2,?_⟩
  rw[List.mem_append] at hs
  rcases hs with hs|hs
  ·split at hs
   ·rw[List.mem_singleton.1 hs];exact .refl _
   ·simp at hs
  ·obtain ⟨d,d1,d2,d3⟩:=ids_sub hs
   exact Rj d3 (.step d1 (by rw[d2];exact .refl _))
theorem Vw.ids_live {V:Vw}:∀ {n b s},s∈V.ids n b→V.live s=true∧∃ c,V.H s=some c∧c.block=s
 | 0,b,s,h=>by simp[Vw.ids] at h
 | n+1,b,s,h=>by
  rw[Vw.ids,List.mem_flatMap] at h
  obtain ⟨c,hc,hs⟩:=h
  obtain ⟨h1,h2⟩:=XK hc
  rw[List.mem_append] at hs
  rcases hs with hs|hs
  ·split at hs
   ·rename_i hl;rw[List.mem_singleton.1 hs];exact ⟨hl,c,h1,rfl⟩
   ·simp at hs
  ·exact ids_live hs
theorem Vw.ids_nodup {V:Vw}:∀ {n b m},Y6 V.H m b→(V.ids n b).Nodup
 | 0,b,m,h=>by simp[Vw.ids]
 | n+1,b,m,h=>by
  rw[Vw.ids]
  show List.Pairwise _ _
  rw[List.pairwise_flatMap]
  have he:∀ c∈Yr V.H b,Y6 V.H (m+1) c.block:=fun c hc=>by
   obtain ⟨h1,h2⟩:=XK hc
   exact ⟨c,h1,by rw[h2];exact h⟩
  have hup:∀ c∈Yr V.H b,∀ s∈(if V.live c.block=true then [c.block] else [])++V.ids n c.block,Up V.H s c.block:=fun c hc s hs=>by
   rw[List.mem_append] at hs
   rcases hs with hs|hs
   ·split at hs
    ·rw[List.mem_singleton.1 hs];exact .refl _
    ·simp at hs
   ·obtain ⟨d,d1,d2,d3⟩:=ids_sub hs
    exact Rj d3 (.step d1 (by rw[d2];exact .refl _))
  refine ⟨fun c hc=>?_,?_⟩
  ·rw[List.pairwise_append]
   refine ⟨by split <;> simp,ids_nodup (he c hc),fun s hs t ht=>?_⟩
   split at hs
   ·rw[List.mem_singleton.1 hs]
    intro e
    obtain ⟨d,d1,d2,d3⟩:=ids_sub ht
    have e2:Y6 V.H (m+2) d.block:=⟨d,d1,by rw[d2];exact he c hc⟩
    rw[←e] at d3
    obtain ⟨j,j1,j2,_⟩:=S5 d3 _ (he c hc)
    have:=XQ _ _ _ j2 e2
    omega
   ·simp at hs
  ·refine (List.pairwise_iff_forall_sublist.2 fun {c d} hs=>?_)
   have hcd:=(List.pairwise_iff_forall_sublist.1 (Q8 V.H b)) hs
   have hc:c∈Yr V.H b:=hs.subset (by simp)
   have hd:d∈Yr V.H b:=hs.subset (by simp)
   intro x hx y hy e
   have h1:=hup c hc x hx
   have h2:=hup d hd y hy
   rw[←e] at h2
   have hb:=Z33 h1 h2 (he c hc) (he d hd)
   have k1:=(XK hc).1
   have k2:=(XK hd).1
   rw[hb,k2] at k1
   cases k1
   exact hcd rfl
theorem Vw.ids_len {V:Vw} {A:List Ch} (hA:Zm V.H A) {n:Nat} {b:St} {m:Nat} (h:Y6 V.H m b):(V.ids n b).length≤A.length:=by
 have:=(Vw.ids_nodup (n:=n) h).length_le_of_subset (l₂:=A.map Ch.block) (fun s hs=>by
  obtain ⟨_,c,h1,h2⟩:=Vw.ids_live hs
  exact List.mem_map.2 ⟨c,(hA.1 c).2 (by rw[h2];exact h1),h2⟩)
 rwa [List.length_map] at this
theorem Vw.row_le {V:Vw} {A:List Ch} (hA:Zm V.H A) {n:Nat} {b:St} {m:Nat} (h:Y6 V.H m b):(V.row n b).length≤A.length:=Nat.le_trans (V.row_len n b) (Vw.ids_len hA h)
theorem Vw.row_stable {V:Vw} {A:List Ch} (hk:ZV V.H) (ha:XA V.H) (hA:Zm V.H A):∀ {n b m},Y6 V.H m b→A.length+1≤n+m→V.row (n+1) b=V.row n b
 | 0,b,m,h,hn=>by
  obtain ⟨m',h1,h2⟩:=S7 hk ha hA b
  have:=XQ _ _ _ h h1
  omega
 | n+1,b,m,h,hn=>by
  rw[Vw.row_succ,Vw.row_succ]
  have:∀ c∈Yr V.H b,V.one (n+1) c.block=V.one n c.block:=fun c hc=>by
   obtain ⟨h1,h2⟩:=XK hc
   have he:Y6 V.H (m+1) c.block:=⟨c,h1,by rw[h2];exact h⟩
   have:=Vw.row_stable hk ha hA (n:=n) he (by omega)
   unfold Vw.one
   rw[this]
  generalize Yr V.H b=K at this
  induction K with
  | nil=>rfl
  | cons c K ih =>
   rw[List.flatMap_cons,List.flatMap_cons,this c (by simp),ih (fun d hd=>this d (List.mem_cons_of_mem _ hd))]
theorem Vw.row_same {V:Vw} {A:List Ch} (hk:ZV V.H) (ha:XA V.H) (hA:Zm V.H A) {n b m} (h:Y6 V.H m b) (hn:A.length+1≤n+m):∀ {k},V.row (n+k) b=V.row n b
 | 0=>rfl
 | k+1=>by
  rw[←Nat.add_assoc,Vw.row_stable hk ha hA h (by omega)]
  exact Vw.row_same hk ha hA h hn
noncomputable def Vw.tree (V:Vw) (first:Pcs) (n:Nat):Nd:=.mk ⟨0,0⟩ ⟨#[100,111,99]⟩ [] [] ((if first=[] then [] else [.mk ⟨0,0⟩ Zw [] first []])++V.row n ⟨0,0⟩)
end Go.Proofs.YtlgipkemoldckaaGreatDoor
namespace Go.Proofs.YtlgipkemoldckaaGreatDoor
open Go.RowKit Go.Sort Go.Shelf
def orI (a b:Int):Int:=if a=0 then b else a
theorem Z1p (b:Nat) (x y:Int) (w:World) (h0:w.cell? ⟨b,0,none⟩=some (.int .i64 x)) (h1:w.cell? ⟨b,1,none⟩=some (.int .i64 y)) :
  Calls Tryz.prog 67 #[.slice (some ⟨b,0,none⟩) 2 2] w fun e w'=>e=.returned (.int .i64 (orI x y))∧w=w':=by
 by_cases hx:x=0
 ·subst hx
  by_cases hy:y=0
  ·subst hy
   go_enter Tryz.func67,Tryz.ntmps67
   go_wp2_with fail
   go_loopg [8] 2 (fun g i wx=>∃ k:Nat,g=2 - k∧k≤2∧i=.int .i64 k∧wx=w)
   case atStart=>exact ⟨0,rfl,Nat.zero_le _,rfl,rfl⟩
   case round =>
    obtain ⟨k,hg,hk,rfl,rfl⟩:=hrel
    rcases (by omega:k=0∨k=1∨k=2) with rfl|rfl|rfl
    ·go_wp2_with fail
     go_roundg 1
     case measure=>omega
     case rel=>exact ⟨1,rfl,by omega,rfl,rfl⟩
    ·go_wp2_with fail
     go_roundg 0
     case measure=>omega
     case rel=>exact ⟨2,rfl,by omega,rfl,rfl⟩
    ·go_wp2_with fail
     go_ret
     exact ⟨rfl,rfl⟩
  ·go_enter Tryz.func67,Tryz.ntmps67
   go_wp2_with fail
   go_loopg [8] 2 (fun g i wx=>∃ k:Nat,g=2 - k∧k≤1∧i=.int .i64 k∧wx=w)
   case atStart=>exact ⟨0,rfl,Nat.zero_le _,rfl,rfl⟩
   case round =>
    obtain ⟨k,hg,hk,rfl,rfl⟩:=hrel
    rcases (by omega:k=0∨k=1) with rfl|rfl
    ·go_wp2_with fail
     go_roundg 1
     case measure=>omega
     case rel=>exact ⟨1,rfl,by omega,rfl,rfl⟩
    ·go_wp2_with fail
     go_ret
     exact ⟨rfl,rfl⟩
 ·have ho:orI x y=x:=by simp[orI,hx]
  rw[ho]
  go_enter Tryz.func67,Tryz.ntmps67
  go_wp2_with fail
  go_loopg [8] 2 (fun g i wx=>g=2∧i=.int .i64 0∧wx=w)
  case atStart=>exact ⟨rfl,rfl,rfl⟩
  case round =>
   obtain ⟨hg,rfl,rfl⟩:=hrel
   go_wp2_with fail
   go_ret
   exact ⟨rfl,rfl⟩
def Tn (x y:Ch):Int:=orI (YK x.key y.key) (Yc x.block y.block)
theorem Wn (x y:Ch):Tn x y<0↔Yx x y:=by
 have hs:=Wm x.block y.block
 have hb:=ltB x.key y.key
 unfold Tn orI Yx YZ
 by_cases h1:x.key.toList<y.key.toList
 ·have h2:YK x.key y.key<0:=by simpa [h1] using hb
  rw[if_neg (by omega)]
  exact ⟨fun _=>.inl h1,fun _=>h2⟩
 ·have h2:¬ YK x.key y.key<0:=by simpa [h1] using hb
  by_cases h3:x.key.toList=y.key.toList
  ·have h4:YK x.key y.key=0:=by
    unfold YK
    rw[bytesLess_eq]
    simp[h3,List.lt_irrefl]
   rw[if_pos h4,hs]
   exact ⟨fun h=>.inr ⟨h3,h⟩,fun h=>h.elim (fun e=>absurd e h1) (fun e=>e.2)⟩
  ·have h4:YK x.key y.key=1:=by
    unfold YK
    rw[bytesLess_eq]
    simp[h1,h3]
   rw[if_neg (by omega),h4]
   exact ⟨fun h=>by omega,fun h=>h.elim (fun e=>absurd e h1) (fun e=>absurd e.1 h3)⟩
theorem Z30:SWO (ltOf fun x y:Ch=>Tn x y) where
 irrefl x:=by simp only[ltOf,decide_eq_false_iff_not];exact fun h=>XO _ ((Wn _ _).1 h)
 trans x y z h1 h2:=by simp only[ltOf,decide_eq_true_eq] at *;exact (Wn _ _).2 (WR ((Wn _ _).1 h1) ((Wn _ _).1 h2))
 ntrans x y z h1 h2:=by
  simp only[ltOf,decide_eq_false_iff_not] at *
  intro h
  have h3:=(Wn _ _).1 h
  have n1:¬ Yx x y:=fun e=>h1 ((Wn _ _).2 e)
  have n2:¬ Yx y z:=fun e=>h2 ((Wn _ _).2 e)
  rcases h3 with h3|⟨h3,h4⟩
  ·by_cases k1:YZ x<YZ y
   ·exact n1 (.inl k1)
   ·by_cases k2:YZ y<YZ z
    ·exact n2 (.inl k2)
    ·exact (List.le_trans k2 k1) h3
  ·by_cases k1:YZ x<YZ y
   ·exact n1 (.inl k1)
   ·by_cases k2:YZ y<YZ z
    ·exact n2 (.inl k2)
    ·have e1:YZ y=YZ x:=List.le_antisymm k1 (by rw[h3];exact k2)
     rcases Y5 x.block y.block with t|t|t
     ·exact n1 (.inr ⟨e1.symm,t⟩)
     ·rw[t] at h4;exact n2 (.inr ⟨e1.trans h3,h4⟩)
     ·exact n2 (.inr ⟨e1.trans h3,ZC t h4⟩)
theorem S0 (a b c d:Int) (w:World) :
  Calls Tryz.prog 42 #[.agg #[.int .i64 a,.int .i64 b],.agg #[.int .i64 c,.int .i64 d]] w
   fun e w'=>e=.returned (.int .i64 (Yc ⟨a,b⟩ ⟨c,d⟩))∧∃ os',w'=grow w os':=by
 by_cases h1:(WO a c != 0)=true
 ·go_enter Tryz.func42,Tryz.ntmps42
  go_wp2_with (go_at_call 59;refine (V9 _ _ _).mono ?_;rintro e w' ⟨rfl,rfl⟩)
  go_ret
  exact ⟨by simp[Yc,h1],_,by rw[alloc_eq_grow,alloc_eq_grow,grow_grow]⟩
 ·have h1:(WO a c != 0)=false:=by simpa using h1
  go_enter Tryz.func42,Tryz.ntmps42
  go_wp2_with (go_at_call 59;refine (V9 _ _ _).mono ?_;rintro e w' ⟨rfl,rfl⟩)
  go_ret
  exact ⟨by simp[Yc,h1],_,by rw[alloc_eq_grow,alloc_eq_grow,grow_grow]⟩
theorem QY (x y:Ch) (w:World) :
  Calls Tryz.prog 66 #[.agg x.cells.toArray,.agg y.cells.toArray] w fun e w'=>e=.returned (.int .i64 (Tn x y))∧∃ q os',w'=grow (w.drewN q) os':=by
 obtain ⟨⟨xn,xr⟩,⟨xu,xv⟩,xk⟩:=x
 obtain ⟨⟨yn,yr⟩,⟨yu,yv⟩,yk⟩:=y
 unfold Ch.cells Tn
 obtain ⟨W1,hW1⟩:=Je ((w.alloc (.cells #[.int .i64 xn,.int .i64 xr,.int .i64 xu,.int .i64 xv,.string xk] 53)).alloc (.cells #[.int .i64 yn,.int .i64 yr,.int .i64 yu,.int .i64 yv,.string yk] 53))
 have hg:∃ os,W1=grow w os:=by rw[←hW1,alloc_eq_grow,alloc_eq_grow,grow_grow];exact ⟨_,rfl⟩
 have x0:W1.cell? ⟨w.heap.size,0,none⟩=some (.int .i64 xn):=by subst hW1;go_simp
 have x1:W1.cell? ⟨w.heap.size,1,none⟩=some (.int .i64 xr):=by subst hW1;go_simp
 have x4:W1.cell? ⟨w.heap.size,4,none⟩=some (.string xk):=by subst hW1;go_simp
 have y0:W1.cell? ⟨w.heap.size+1,0,none⟩=some (.int .i64 yn):=by subst hW1;go_simp
 have y1:W1.cell? ⟨w.heap.size+1,1,none⟩=some (.int .i64 yr):=by subst hW1;go_simp
 have y4:W1.cell? ⟨w.heap.size+1,4,none⟩=some (.string yk):=by subst hW1;go_simp
 have HG:=Lib.hid hg
 subst hW1
 go_enter Tryz.func66,Tryz.ntmps66
 go_upto_region 1 with fail
 generalize (w.alloc (.cells #[.int .i64 xn,.int .i64 xr,.int .i64 xu,.int .i64 xv,.string xk] 53)).alloc (.cells #[.int .i64 yn,.int .i64 yr,.int .i64 yu,.int .i64 yv,.string yk] 53)=W1 at *
 have hkeep:∀ (W:World) os b o u,W.cell? ⟨b,o,none⟩=some u→(grow W os).cell? ⟨b,o,none⟩=some u:=fun W os b o u h=>by
  exact (cell?_grow W os ⟨b,o,none⟩ (Zj h)).trans h
 have HK:=Lib.hid hkeep
 clear hkeep hg
 go_region_held3 (fun W=>W.cell? ⟨w.heap.size,0,none⟩=some (.int .i64 xn)∧W.cell? ⟨w.heap.size,1,none⟩=some (.int .i64 xr)∧W.cell? ⟨w.heap.size,4,none⟩=some (.string xk)∧W.cell? ⟨w.heap.size+1,0,none⟩=some (.int .i64 yn)∧W.cell? ⟨w.heap.size+1,1,none⟩=some (.int .i64 yr)∧W.cell? ⟨w.heap.size+1,4,none⟩=some (.string yk)) (refine ⟨?_,?_,?_,?_,?_,?_⟩ <;> first|assumption|(refine HK.out _ _ _ _ _ ?_;assumption)|(refine Z1 (HK.out _ _ _ _ _ ?_) _;assumption)) (first
  | (go_at_call 62;((with_reducible refine (U8 _ _ _).mono ?_);rintro e w2 ⟨rfl,rfl⟩))
  | (go_at_call 42;((with_reducible refine (S0 _ _ _ _ _).mono ?_);rintro e w2 ⟨rfl,os2,rfl⟩))
  | (go_at_call 67;((with_reducible refine (Z1p _ (YK xk yk) (Yc ⟨xn,xr⟩ ⟨yn,yr⟩) _ (by go_simp) (by go_simp)).mono ?_);rintro e w4 ⟨rfl,rfl⟩)))
 all_goals
  go_wp2_with fail
  go_ret
  obtain ⟨os,hos⟩:=HG.out
  refine ⟨rfl,1,?_⟩
  rw[hos,alloc_eq_grow]
  exact ⟨_,by first|rfl|(rw[grow_grow];rfl)|(simp only[grow_grow];rfl)|(unfold grow World.drew World.drewN;simp;rfl)⟩
theorem Qu {base:Nat} {w:World} {v:Value} {l:List Ch} (h:Own Ch.cells 5 53 base w v l) (hl:l.length<4611686018427387904) :
  Calls Tryz.prog 65 #[v,.func (.func 66) #[] #[]] w fun e w'=>e=.returned (.tuple #[])∧∃ l',l'.Perm l∧l'.Pairwise (fun a b=>ltOf (fun x y:Ch=>Tn x y) b a=false)∧Own Ch.cells 5 53 base w' v l'∧Ext (fun b=>v.ownBlock=some b) w w':=by
 have eg:∀ args w,(callFunc 66 args).run Tryz.prog w=.ok (.enter 66 args) w:=enters_of Tryz.func66 (by kernel_rfl) rfl
 refine Tq (fun _=>rfl) (by omega) (fun blk cap d w hH hb hs=>?_) (fun p cap w=>?_) h hl
 ·exact AnyQ.slices_SortFunc Tryz.sortChild 5 Tryz.isAgg53 Tryz.sizeOf53 Ch.cells (fun _=>rfl) (fun x v hv=>by simp[Ch.cells] at hv;rcases hv with rfl|rfl|rfl|rfl|rfl <;> rfl) (fun x y=>Tn x y) Z30 66 #[] blk 0 cap d w eg (fun _ _ _ _ x y=>QY x y _) hH hb hs
 ·exact AnyF.slices_SortFunc_none Tryz.sortChild p cap _ w
end Go.Proofs.YtlgipkemoldckaaGreatDoor
namespace Go.Proofs.YtlgipkemoldckaaGreatDoor
open Go.RowKit
def Yy (C:List Ch) (s:St):List Ch:=if s=⟨0,0⟩∨∃ c∈C,c.block=s then C else C++[ZD s]
structure Gth (A:List Ch) (S:St→Prop) (C:List Ch):Prop where
 old:∀ c∈A,c∈C
 new:∀ c∈C,c∈A∨(c=ZD c.block∧c.block≠⟨0,0⟩∧(∀ d∈A,d.block≠c.block)∧S c.block)
 nodup:C.Pairwise (fun a b=>a.block≠b.block)
 all:∀ s,S s→s≠⟨0,0⟩→∃ c∈C,c.block=s
theorem Gth.start {A:List Ch} (h:A.Pairwise (fun a b=>a.block≠b.block)):Gth A (fun _=>False) A :=
 ⟨fun _ h=>h,fun _ h=>.inl h,h,fun _ h=>h.elim⟩
theorem Gth.mono {A:List Ch} {S T:St→Prop} {C:List Ch} (h:Gth A S C) (hs:∀ s,S s↔T s):Gth A T C:=by
 have:S=T:=funext fun s=>propext (hs s)
 rw[←this];exact h
theorem Gth.more {A:List Ch} {S:St→Prop} {C:List Ch} (h:Gth A S C) (s:St):Gth A (fun t=>S t∨t=s) (Yy C s):=by
 unfold Yy
 split
 ·rename_i hc
  refine ⟨h.old,fun c hc'=>?_,h.nodup,fun t ht hn=>?_⟩
  ·rcases h.new c hc' with k|⟨k1,k2,k3,k4⟩
   ·exact .inl k
   ·exact .inr ⟨k1,k2,k3,.inl k4⟩
  ·rcases ht with ht|rfl
   ·exact h.all t ht hn
   ·rcases hc with hc|hc
    ·exact absurd hc hn
    ·exact hc
 ·rename_i hc
  have h1:s≠⟨0,0⟩:=fun e=>hc (.inl e)
  have h2:∀ c∈C,c.block≠s:=fun c hc' e=>hc (.inr ⟨c,hc',e⟩)
  refine ⟨fun c hc'=>List.mem_append_left _ (h.old c hc'),fun c hc'=>?_,?_,fun t ht hn=>?_⟩
  ·rw[List.mem_append,List.mem_singleton] at hc'
   rcases hc' with hc'|rfl
   ·rcases h.new c hc' with k|⟨k1,k2,k3,k4⟩
    ·exact .inl k
    ·exact .inr ⟨k1,k2,k3,.inl k4⟩
   ·exact .inr ⟨rfl,h1,fun d hd=>h2 d (h.old d hd),.inr rfl⟩
  ·rw[List.pairwise_append]
   refine ⟨h.nodup,List.pairwise_singleton _ _,fun c hc' d hd=>?_⟩
   rw[List.mem_singleton.1 hd]
   exact h2 c hc'
  ·rcases ht with ht|rfl
   ·obtain ⟨c,k1,k2⟩:=h.all t ht hn
    exact ⟨c,List.mem_append_left _ k1,k2⟩
   ·exact ⟨ZD t,by simp,rfl⟩
theorem Vy (C:List Ch) (s:St):(Yy C s).length≤C.length+1:=by
 unfold Yy;split <;> simp
theorem Gth.full {l:List El} {h:Zi} {A C:List Ch} (hA:Zm h A) (hk:ZV h) (g:Gth A (fun s=>X2 l s=true∨∃ d∈A,d.under=s) C):∀ c,c∈C↔Y2 l h A c.block=some c:=by
 intro c
 have hin:∀ d,d∈A↔h d.block=some d:=hA.1
 constructor
 ·intro hc
  rcases g.new c hc with k|⟨k1,k2,k3,k4⟩
  ·exact Ve ((hin c).1 k)
  ·have e:h c.block=none:=by
    cases e:h c.block with
    | none=>rfl
    | some d =>
     have:=hk _ _ e
     exact absurd this (k3 d ((hin d).2 (by rw[this];exact e)))
   rw[V3 e ⟨k2,k4⟩]
   exact congrArg some k1.symm
 ·intro hc
  cases e:h c.block with
  | some d =>
   rw[Ve e] at hc
   cases hc
   exact g.old _ ((hin _).2 e)
  | none =>
   by_cases k:VV l A c.block
   ·obtain ⟨d,d1,d2⟩:=g.all _ k.2 k.1
    have hd:d=c:=by
     rw[V3 e k] at hc
     rcases g.new d d1 with j|⟨j1,_⟩
     ·have:=(hin d).1 j
      rw[d2,e] at this;cases this
     ·rw[j1,d2];exact Option.some.inj hc
    rw[←hd];exact d1
   ·rw[WG e k] at hc;cases hc
theorem Gth.allOf {l:List El} {h:Zi} {A C D:List Ch} (hA:Zm h A) (hk:ZV h) (g:Gth A (fun s=>X2 l s=true∨∃ d∈A,d.under=s) C) (hp:D.Perm C) (hs:D.Pairwise (fun a b=>ZI a.block b.block)):Zm (Y2 l h A) D :=
 ⟨fun c=>hp.mem_iff.trans (g.full hA hk c),hs⟩
theorem Gth.kidsOf {l:List El} {h:Zi} {A C D:List Ch} {u:St} (hA:Zm h A) (hk:ZV h) (g:Gth A (fun s=>X2 l s=true∨∃ d∈A,d.under=s) C) (hp:D.Perm (C.filter (fun c=>decide (c.under=u)))) (hs:D.Pairwise Yx):WF (Y2 l h A) u D :=
 ⟨fun c=>by rw[hp.mem_iff,List.mem_filter,g.full hA hk c,decide_eq_true_eq],hs⟩
structure KM (base:Nat) (W:World) (kb:Nat) (F:St→List Ch) (lk:List (St × Sl)):Prop where
 map:Z6 St.val Sl.val W kb lk
 row:∀ u s,Z5 lk u=some s→Own Ch.cells 5 53 base W s.val (F u)
 non:∀ u,Z5 lk u=none→F u=[]
 far:∀ u u' s s' b,Z5 lk u=some s→Z5 lk u'=some s'→s.val.ownBlock=some b→s'.val.ownBlock=some b→u=u'
def XC (base:Nat) (W:World) (k:Nat):Prop:=base≤k∧∃ cur,W.heap[k]?=some (.cells cur 53 (0,0))
def XY (F:St→List Ch) (u:St) (l:List Ch):St→List Ch:=fun k=>if k=u then l else F k
def Z2:Sl:=⟨none,0,0⟩
section
variable {base:Nat} {W W':World} {kb:Nat} {F:St→List Ch} {lk:List (St × Sl)}
theorem KM.blk (h:KM base W kb F lk) {u:St} {s:Sl} (hs:Z5 lk u=some s) {b:Nat} (hb:s.val.ownBlock=some b):XC base W b∧b≠kb:=by
 have ho:=h.row u s hs
 obtain ⟨cur,hc⟩:=ho.tag hb
 obtain ⟨_,es,clock,hm,_⟩:=h.map
 refine ⟨⟨(ho.blk b hb).1,cur,hc⟩,fun e=>?_⟩
 rw[e,hm] at hc
 cases hc
theorem KM.ext {S:Nat→Prop} (h:KM base W kb F lk) (hx:Ext S W W') (hk:¬ S kb) (hr:∀ b,XC base W b→¬ S b):KM base W' kb F lk :=
 ⟨h.map.ext hx hk,fun u s hs=>(h.row u s hs).ext hx (fun b hb=>hr b (h.blk hs hb).1),h.non,h.far⟩
theorem KM.own (h:KM base W kb F lk) (u:St):Own Ch.cells 5 53 base W ((Z5 lk u).getD Z2).val (F u):=by
 cases e:Z5 lk u with
 | some s=>exact h.row u s e
 | none =>
  rw[h.non u e]
  exact Own.nil
theorem KM.put (h:KM base W kb F lk) {u:St} {l:List Ch} {s':Sl} {W2 W3 W4:World} (hx12:Ext (·=kb) W W2) (hx3:Ext (fun b=>((Z5 lk u).getD Z2).val.ownBlock=some b) W2 W3) (hown:Own Ch.cells 5 53 base W3 s'.val l)
  (hfr:∀ b,s'.val.ownBlock=some b→((Z5 lk u).getD Z2).val.ownBlock=some b∨W2.heap.size≤b) (hx4:Ext (·=kb) W3 W4) (hm:Z6 St.val Sl.val W4 kb (Zx lk u s')) :
  KM base W4 kb (XY F u l) (Zx lk u s'):=by
 have hkb:=h.map.lt
 have hsz2:=hx12.size
 have h0:∀ b,((Z5 lk u).getD Z2).val.ownBlock=some b→XC base W b∧b≠kb:=fun b hb=>by
  cases e:Z5 lk u with
  | some s=>rw[e] at hb;exact h.blk e hb
  | none=>rw[e] at hb;cases hb
 have hne:∀ b,s'.val.ownBlock=some b→b≠kb:=fun b hb e=>by
  rcases hfr b hb with h1|h1
  ·exact (h0 b h1).2 e
  ·omega
 have hoth:∀ k s b,k≠u→Z5 lk k=some s→s.val.ownBlock=some b→((Z5 lk u).getD Z2).val.ownBlock≠some b:=fun k s b hk hs hb e=>by
  cases e2:Z5 lk u with
  | some s0=>rw[e2] at e;exact hk (h.far k u s s0 b hs e2 hb e)
  | none=>rw[e2] at e;cases e
 have hlt:∀ k s b,Z5 lk k=some s→s.val.ownBlock=some b→b<W.heap.size:=fun k s b hs hb=>((h.row k s hs).blk b hb).2
 refine ⟨hm,fun k s hs=>?_,fun k hs=>?_,fun k k' s t b hs ht hb hb'=>?_⟩
 ·by_cases hk:k=u
  ·subst hk
   rw[ZU] at hs
   cases hs
   rw[XY,if_pos rfl]
   exact hown.ext hx4 (fun b hb=>hne b hb)
  ·rw[ZE _ _ (Ne.symm hk)] at hs
   rw[XY,if_neg hk]
   have o1:=(h.row k s hs).ext hx12 (fun b hb=>(h.blk hs hb).2)
   have o2:=o1.ext hx3 (fun b hb e=>hoth k s b hk hs hb e)
   exact o2.ext hx4 (fun b hb=>(h.blk hs hb).2)
 ·by_cases hk:k=u
  ·subst hk
   rw[ZU] at hs
   cases hs
  ·rw[ZE _ _ (Ne.symm hk)] at hs
   rw[XY,if_neg hk]
   exact h.non k hs
 ·have sep:∀ k s,k≠u→Z5 lk k=some s→s.val.ownBlock=some b→s'.val.ownBlock≠some b:=fun k s hk hs hb e=>by
   rcases hfr b e with h1|h1
   ·exact hoth k s b hk hs hb h1
   ·have:=hlt k s b hs hb;omega
  by_cases hk:k=u <;> by_cases hk':k'=u
  ·rw[hk,hk']
  ·subst hk
   rw[ZU] at hs
   rw[ZE _ _ (Ne.symm hk')] at ht
   cases hs
   exact absurd hb (sep k' t hk' ht hb')
  ·subst hk'
   rw[ZU] at ht
   rw[ZE _ _ (Ne.symm hk)] at hs
   cases ht
   exact absurd hb' (sep k s hk hs hb)
  ·rw[ZE _ _ (Ne.symm hk)] at hs
   rw[ZE _ _ (Ne.symm hk')] at ht
   exact h.far k k' s t b hs ht hb hb'
theorem KM.sort (h:KM base W kb F lk) {u:St} {s:Sl} {l:List Ch} (hs:Z5 lk u=some s) (hx:Ext (fun b=>s.val.ownBlock=some b) W W') (hown:Own Ch.cells 5 53 base W' s.val l):KM base W' kb (XY F u l) lk:=by
 refine ⟨h.map.ext hx (fun e=>(h.blk hs e).2 rfl),fun k t ht=>?_,fun k ht=>?_,h.far⟩
 ·by_cases hk:k=u
  ·subst hk
   rw[hs] at ht
   cases ht
   rw[XY,if_pos rfl]
   exact hown
  ·rw[XY,if_neg hk]
   exact (h.row k t ht).ext hx (fun b hb e=>hk (h.far k u t s b ht hs hb e))
 ·have hk:k≠u:=fun e=>by rw[e,hs] at ht;cases ht
  rw[XY,if_neg hk]
  exact h.non k ht
end
def YE (C:List Ch) (u:St):List Ch:=C.filter (fun c=>decide (c.under=u))
theorem Sj (C:List Ch) (c:Ch):YE (C++[c])=XY (YE C) c.under (YE C c.under++[c]):=by
 funext u
 unfold YE XY
 rw[List.filter_append]
 by_cases h:u=c.under
 ·subst h;simp
 ·simp[h,Ne.symm h]
theorem Tr (C:List Ch) (u:St):(YE C u).length≤C.length:=List.length_filter_le _ _
def Xv (W:World) (sb n:Nat) (C:List Ch):Prop:=∃ ls:List (St × Int),Z6 St.val Yv W sb ls∧(∀ u,(Z5 ls u).getD 0=0↔¬ (u=⟨0,0⟩∨∃ c∈C,c.block=u))∧∀ u v,Z5 ls u=some v→0≤v∧v≤n
theorem Xv.ext {S:Nat→Prop} {W W':World} {sb n:Nat} {C:List Ch} (h:Xv W sb n C) (hx:Ext S W W') (hs:¬ S sb):Xv W' sb n C:=by
 obtain ⟨ls,h1,h2⟩:=h
 exact ⟨ls,h1.ext hx hs,h2⟩
theorem Rc {ls:List (St × Int)} {n:Nat} {C C':List Ch} {u:St} (h2:∀ u,(Z5 ls u).getD 0=0↔¬ (u=⟨0,0⟩∨∃ c∈C,c.block=u)) (h3:∀ u v,Z5 ls u=some v→0≤v∧v≤(n:Int)) (hC:∀ k,(∃ c∈C',c.block=k)↔(∃ c∈C,c.block=k)∨k=u) :
  (∀ k,(Z5 (Zx ls u ((Z5 ls u).getD 0+1)) k).getD 0=0↔¬ (k=⟨0,0⟩∨∃ c∈C',c.block=k))∧∀ k v,Z5 (Zx ls u ((Z5 ls u).getD 0+1)) k=some v→0≤v∧v≤((n+1:Nat):Int):=by
 have hb:0≤(Z5 ls u).getD 0∧(Z5 ls u).getD 0≤(n:Int):=by
  cases e:Z5 ls u with
  | none=>simp
  | some v=>exact h3 u v e
 constructor
 ·intro k
  rw[hC k]
  by_cases hk:k=u
  ·subst hk
   rw[ZU]
   simp
   omega
  ·rw[ZE _ _ (Ne.symm hk),h2 k]
   simp[hk]
 ·intro k v hv
  by_cases hk:k=u
  ·subst hk
   rw[ZU] at hv
   cases hv
   omega
  ·rw[ZE _ _ (Ne.symm hk)] at hv
   have:=h3 k v hv
   omega
theorem WK:Tryz.prog.underlying 103=some (.map 23 48):=by kernel_rfl
theorem Vz (w:World):(zeroValue 48).run Tryz.prog w=.ok (.slice none 0 0) w:=by kernel_rfl
theorem Wa:Tryz.prog.underlying 48=some (.slice 53):=by kernel_rfl
theorem Z2B {C:List Ch} {s:St} (h:s=⟨0,0⟩∨∃ c∈C,c.block=s):Yy C s=C:=if_pos h
theorem Z1w {C:List Ch} {s:St} (h:¬ (s=⟨0,0⟩∨∃ c∈C,c.block=s)):Yy C s=C++[ZD s]:=if_neg h
def Z2u (base sb kb n:Nat) (C:List Ch) (s:St) (w:World) (e:Ending) (w':World):Prop :=
 e=.returned (.tuple #[])∧Xv w' sb (n+1) (Yy C s)∧(∃ lk,KM base w' kb (YE (Yy C s)) lk)∧Ext (fun k=>k=sb∨k=kb∨XC base w k) w w'
theorem RE (base sx sb bx bb kb n:Nat) (C:List Ch) (lk:List (St × Sl)) (sn sr:Int) (w:World) (hsx:w.cell? ⟨sx,0,none⟩=some (.map (some sb))) (hbx:w.cell? ⟨bx,0,none⟩=some (.pointer (some ⟨bb,0,none⟩))) (hbb:w.cell? ⟨bb,2,none⟩=some (.map (some kb)))
  (hS:Xv w sb n C) (hK:KM base w kb (YE C) lk) (hne:sb≠kb) (hnx:¬ XC base w bx) (hnb:¬ XC base w bb) (hn:n≤10000) (hC:C.length≤10000) (hbase:base≤w.heap.size) :
  Calls Tryz.prog 64 #[.agg #[.int .i64 sn,.int .i64 sr],.pointer (some ⟨sx,0,none⟩),.pointer (some ⟨bx,0,none⟩)] w fun e w'=>Z2u base sb kb n C ⟨sn,sr⟩ w e w':=by
 obtain ⟨ls,hm,hz,hv⟩:=hS
 have hB0:Below w.heap.size w (w.alloc (.cells #[.int .i64 sn,.int .i64 sr] 23)):=(Below.refl _ _).alloc (Nat.le_refl _) _
 have x0:(w.alloc (.cells #[.int .i64 sn,.int .i64 sr] 23)).cell? ⟨w.heap.size,0,none⟩=some (.int .i64 sn):=by go_simp
 have x1:(w.alloc (.cells #[.int .i64 sn,.int .i64 sr] 23)).cell? ⟨w.heap.size,1,none⟩=some (.int .i64 sr):=by go_simp
 have m1:=hm.below hB0
 have k1:=hK.ext (Ext.of_below (S:=fun _=>False) hB0) (fun f=>f) (fun _ _ f=>f)
 have c1:=Z0 hB0 hsx
 have c2:=Z0 hB0 hbx
 have c3:=Z0 hB0 hbb
 have hlt:=hm.lt
 have hltk:=hK.map.lt
 have hrw:∀ b,XC base (w.alloc (.cells #[.int .i64 sn,.int .i64 sr] 23)) b→b<w.heap.size→XC base w b:=fun b hb hl=>⟨hb.1,by rw[←hB0.block b hl];exact hb.2⟩
 have hrn:¬ XC base (w.alloc (.cells #[.int .i64 sn,.int .i64 sr] 23)) w.heap.size:=fun h=>by
  obtain ⟨_,cur,hc⟩:=h
  have:=hc.symm.trans (World.alloc_heap_new w _)
  cases this
 have HRW:=Lib.hid hrw
 have HRN:=Lib.hid hrn
 have hs1:(w.alloc (.cells #[.int .i64 sn,.int .i64 sr] 23)).heap.size=w.heap.size+1:=by simp
 have hlk:∀ W,Z6 St.val Yv W sb ls→(Instr.lookup 135 (.map (some sb)) (.agg #[.int .i64 sn,.int .i64 sr]) false).run Tryz.prog W=.ok (.int .i64 ((Z5 ls ⟨sn,sr⟩).getD 0)) W:=fun W hW=>by
  have:=hW.lookup ZL XU U1 ⟨sn,sr⟩
  rw[show ((Z5 ls ⟨sn,sr⟩).map Yv).getD (.int .i64 0)=.int .i64 ((Z5 ls ⟨sn,sr⟩).getD 0) from by cases Z5 ls ⟨sn,sr⟩ <;> rfl] at this
  exact this
 have HB0:=Lib.hid hB0
 have HZ:=Lib.hid hz
 have HV:=Lib.hid hv
 have HLX:=Jh (Zj hbx)
 have HLB:=Jh (Zj hbb)
 clear hsx hbx hbb hm hK hB0 hz hv hrw hrn
 by_cases h0:(Z5 ls ⟨sn,sr⟩).getD 0=0
 ·have hnew:=(HZ.out ⟨sn,sr⟩).1 h0
  have hmp:=Z1w hnew
  have hmp2:∀ k,(∃ c∈C++[ZD ⟨sn,sr⟩],c.block=k)↔(∃ c∈C,c.block=k)∨k=⟨sn,sr⟩:=fun k=>by
   constructor
   ·rintro ⟨c,hc,e⟩
    rcases List.mem_append.1 hc with hc|hc
    ·exact .inl ⟨c,hc,e⟩
    ·rw[List.mem_singleton.1 hc] at e;exact .inr e.symm
   ·rintro (⟨c,hc,e⟩|rfl)
    ·exact ⟨c,List.mem_append_left _ hc,e⟩
    ·exact ⟨ZD ⟨sn,sr⟩,by simp,rfl⟩
  have HSP:=Jh (Rc HZ.out HV.out hmp2)
  rw[h0] at HSP hlk
  have hen:=m1.entry ZL XU U1 ⟨sn,sr⟩ (0:Int)
  rw[show ((Z5 ls ⟨sn,sr⟩).map Yv).getD (.int .i64 0)=.int .i64 0 from by rw[show (Z5 ls ⟨sn,sr⟩).map Yv=(Z5 ls ⟨sn,sr⟩).map Yv from rfl];revert h0;cases Z5 ls ⟨sn,sr⟩ <;> simp[Yv]] at hen
  obtain ⟨st,es1,cl1,e1,e2,e3,e4⟩:=hen
  have HMP:=Lib.hid hmp
  clear hmp hmp2 hnew h0
  go_enter Tryz.func64,Tryz.ntmps64
  go_upto_region 2 with fail
  generalize w.alloc (.cells #[.int .i64 sn,.int .i64 sr] 23)=w1 at *
  have hsb:sb<w1.heap.size:=by omega
  have hS0:(fun W:World=>W.cell? ⟨sx,0,none⟩=some (.map (some sb))∧W.cell? ⟨w.heap.size,0,none⟩=some (.int .i64 sn)∧W.cell? ⟨w.heap.size,1,none⟩=some (.int .i64 sr)∧(Instr.lookup 135 (.map (some sb)) (.agg #[.int .i64 sn,.int .i64 sr]) false).run Tryz.prog W=.ok (.int .i64 0) W) w1.drew:=⟨c1,x0,x1,hlk _ m1.drew⟩
  refine Zf (fun W:World=>W.cell? ⟨sx,0,none⟩=some (.map (some sb))∧W.cell? ⟨w.heap.size,0,none⟩=some (.int .i64 sn)∧W.cell? ⟨w.heap.size,1,none⟩=some (.int .i64 sr)∧(Instr.lookup 135 (.map (some sb)) (.agg #[.int .i64 sn,.int .i64 sr]) false).run Tryz.prog W=.ok (.int .i64 0) W) (fun i=>i == 6) (by kernel_rfl) ?_
  refine J4 0 8 _ hS0 ?_
  try simp only[Ja]
  refine J4 1 9 _ hS0 ?_
  try simp only[Ja]
  refine J4 2 10 (.int .i64 0) hS0 ?_
  try simp only[Ja]
  refine J4 3 11 (.int .i64 1) hS0 ?_
  try simp only[Ja]
  refine Zk (i:=4) (d:=some 12) (v:=.tuple #[.int .i64 0,.int .i64 st]) (w':=w1.drew.putObj sb (.map es1 cl1)) (by kernel_rfl) rfl rfl (by rfl) (by have q:(Instr.mapEntry 135 (.map (some sb)) (.agg #[.int .i64 sn,.int .i64 sr])).run Tryz.prog w1.drew=_:=e1 w1.drew rfl;go_simp;try rw[q]) (fun _=>?_) ?_
  ·obtain ⟨es0,k0,hb0,-⟩:=m1.2
   exact ⟨(YC hb0 _ _ _).trans c1,(YC hb0 _ _ _).trans x0,(YC hb0 _ _ _).trans x1,e3 _ (World.putObj_heap_same hsb)⟩
  try simp only[Ja]
  obtain ⟨es2,cl2,f1,f2⟩:=e4 (w1.drew.putObj sb (.map es1 cl1)) (1:Int) (World.putObj_heap_same hsb)
  have hS1:(fun W:World=>W.cell? ⟨sx,0,none⟩=some (.map (some sb))∧W.cell? ⟨w.heap.size,0,none⟩=some (.int .i64 sn)∧W.cell? ⟨w.heap.size,1,none⟩=some (.int .i64 sr)∧(Instr.lookup 135 (.map (some sb)) (.agg #[.int .i64 sn,.int .i64 sr]) false).run Tryz.prog W=.ok (.int .i64 0) W) (w1.drew.putObj sb (.map es1 cl1)):=by
   obtain ⟨es0,k0,hb0,-⟩:=m1.2
   exact ⟨(YC hb0 _ _ _).trans c1,(YC hb0 _ _ _).trans x0,(YC hb0 _ _ _).trans x1,e3 _ (World.putObj_heap_same hsb)⟩
  refine Zk (i:=5) (d:=some 13) (v:=.int .i64 st) (w':=w1.drew.putObj sb (.map es1 cl1)) (by kernel_rfl) rfl rfl (by rfl) (by go_simp;try rfl) (fun _=>hS1) ?_
  try simp only[Ja]
  refine Zg (i:=6) (d:=none) (w':=(w1.drew.putObj sb (.map es1 cl1)).putObj sb (.map es2 cl2)) (by kernel_rfl) rfl rfl (by rfl) (by have q:(Instr.entryStore 135 (.map (some sb)) (.int .i64 st) (.int .i64 1)).run Tryz.prog (w1.drew.putObj sb (.map es1 cl1))=_:=f1;go_simp;try rw[q]) (fun h=>by cases h) ?_
  try simp only[Ja]
  refine Zd (by kernel_rfl) ?_ _
  have hxa:Ext (·=sb) w1 ((w1.drew.putObj sb (.map es1 cl1)).putObj sb (.map es2 cl2)):=(Ext.refl _ _).drew.trans ((Xt _ _ _).trans (Xt _ _ _))
  rw[show (0:Int)+1=1 from rfl] at HSP
  have HSN:Hid (Xv ((w1.drew.putObj sb (.map es1 cl1)).putObj sb (.map es2 cl2)) sb (n+1) (C++[ZD ⟨sn,sr⟩])):=Lib.hid ⟨_,f2,HSP.out.1,HSP.out.2⟩
  have k2:=k1.ext hxa (Ne.symm hne) (fun b hb e=>by
   obtain ⟨es0,k0,hb0,-⟩:=m1.2
   obtain ⟨_,cur,hc⟩:=hb
   rw[e,hb0] at hc
   cases hc)
  have d2:=hxa.keep c2 (fun e=>by
   obtain ⟨es0,k0,hb0,-⟩:=m1.2
   simp only[World.cell?,e,hb0] at c2
   cases c2)
  have d3:=hxa.keep c3 (fun e=>by
   obtain ⟨es0,k0,hb0,-⟩:=m1.2
   simp only[World.cell?,e,hb0] at c3
   cases c3)
  have y0:=hxa.keep x0 (by omega)
  have y1:=hxa.keep x1 (by omega)
  have hza:=hxa.size
  have HXA:=Lib.hid hxa
  have HSN2:=f2.2
  have HM1:=Lib.hid m1.2
  clear hS0 hS1 e1 e2 e3 e4 f1 f2 hlk m1 k1 c1 c2 c3 x0 x1 hxa HSP HZ HV
  generalize (w1.drew.putObj sb (.map es1 cl1)).putObj sb (.map es2 cl2)=w2 at *
  go_upto_region 3 with fail
  obtain ⟨i0,hi,hz0,hz1,hz2⟩:=info_parts Xr
  have hlook:∀ W,W.heap[kb]?=w2.heap[kb]?→(Instr.lookup 103 (.map (some kb)) (.agg #[.int .i64 0,.int .i64 0]) false).run Tryz.prog W=.ok (.slice ((Z5 lk ⟨0,0⟩).getD Z2).a ((Z5 lk ⟨0,0⟩).getD Z2).n ((Z5 lk ⟨0,0⟩).getD Z2).cap) W:=fun W hW=>by
   have:=(k2.map.of_block hW).lookup ZL WK Vz ⟨0,0⟩
   rw[show ((Z5 lk ⟨0,0⟩).map Sl.val).getD (.slice none 0 0)=((Z5 lk ⟨0,0⟩).getD Z2).val from by cases Z5 lk ⟨0,0⟩ <;> rfl] at this
   exact this
  have hown0:=k2.own ⟨0,0⟩
  have hfl:=Tr C ⟨0,0⟩
  have hrun0:=Yt (P:=Tryz.prog) 48 48 i0 (.agg #[.int .i64 0,.int .i64 0,.int .i64 0,.int .i64 0,.string ⟨#[]⟩]) 48 Wa hi hz0 hz1 hz2 rfl (by omega) (fun _=>rfl) (fun x u hu=>by simp[Ch.cells] at hu;rcases hu with rfl|rfl|rfl|rfl|rfl <;> rfl) (hown0.drew.alloc (.cells #[.int .i64 sn,.int .i64 sr,.int .i64 0,.int .i64 0,.string ⟨#[]⟩] 53)) (ZD ⟨sn,sr⟩) w2.heap.size 1 (fun j u hj=>by
   match j,hj with
   | 0,hj=>simp[Ch.cells,ZD] at hj;subst hj;go_simp
   | 1,hj=>simp[Ch.cells,ZD] at hj;subst hj;go_simp
   | 2,hj=>simp[Ch.cells,ZD] at hj;subst hj;go_simp
   | 3,hj=>simp[Ch.cells,ZD] at hj;subst hj;go_simp
   | 4,hj=>simp[Ch.cells,ZD] at hj;subst hj;go_simp
   | n+5,hj=>simp[Ch.cells,ZD] at hj) (by unfold maxLen;omega) (by omega) (by simp;omega)
  have hx12:Ext (·=kb) w2 (w2.drew.alloc (.cells #[.int .i64 sn,.int .i64 sr,.int .i64 0,.int .i64 0,.string ⟨#[]⟩] 53)):=(Ext.refl _ _).drew.alloc _
  obtain ⟨v3,w3,hr3,hown3,hx3,hfr3⟩:=hrun0
  obtain ⟨s3,rfl⟩:∃ s3:Sl,v3=.slice s3.a s3.n s3.cap:=by
   rcases hown3.eq_slice with ⟨e,_⟩|⟨g,c,e,_⟩
   ·exact ⟨Z2,e⟩
   ·exact ⟨⟨_,_,_⟩,e⟩
  have hm2:Z6 St.val Sl.val (w2.drew.alloc (.cells #[.int .i64 sn,.int .i64 sr,.int .i64 0,.int .i64 0,.string ⟨#[]⟩] 53)) kb lk:=k2.map.drew.alloc _
  have hm3:Z6 St.val Sl.val w3 kb lk:=hm2.ext hx3 (fun e=>by
   cases e2:Z5 lk ⟨0,0⟩ with
   | some s=>rw[e2] at e;exact (k2.blk e2 e).2 rfl
   | none=>rw[e2] at e;cases e)
  have hupd:(Instr.mapUpdate 103 (.map (some kb)) (.agg #[.int .i64 0,.int .i64 0]) (.slice s3.a s3.n s3.cap)).run Tryz.prog w3=.ok () (Zn w3 kb (Zp lk ⟨0,0⟩) (St.val ⟨0,0⟩) s3.val):=hm3.update ZL WK ⟨0,0⟩ s3.val
  have hfin:=k2.put (l:=YE C ⟨0,0⟩++[ZD ⟨sn,sr⟩]) hx12 hx3 hown3 hfr3 (Xs w3 kb (Zp lk ⟨0,0⟩) (St.val ⟨0,0⟩) s3.val) (hm3.put ⟨0,0⟩ s3)
  have hfil:XY (YE C) ⟨0,0⟩ (YE C ⟨0,0⟩++[ZD ⟨sn,sr⟩])=YE (C++[ZD ⟨sn,sr⟩]):=(Sj C (ZD ⟨sn,sr⟩)).symm
  rw[hfil] at hfin
  have hxb:Ext (fun k=>k=kb∨XC base w2 k) w2 (Zn w3 kb (Zp lk ⟨0,0⟩) (St.val ⟨0,0⟩) s3.val):=((hx12.mono (fun _ _ e=>.inl e)).andThen hx3 (fun i hi e=>by
   cases e2:Z5 lk ⟨0,0⟩ with
   | some s=>rw[e2] at e;exact .inr (k2.blk e2 e).1
   | none=>rw[e2] at e;cases e)).andThen (Xs w3 kb (Zp lk ⟨0,0⟩) (St.val ⟨0,0⟩) s3.val) (fun i hi e=>.inl e)
  have HFIN:=Lib.hid hfin
  have HXB:=Lib.hid hxb
  obtain ⟨sa,sm,sc,hs0⟩:∃ sa sm sc,(Z5 lk ⟨0,0⟩).getD Z2=⟨sa,sm,sc⟩:=⟨_,_,_,rfl⟩
  rw[hs0] at hlook hr3
  simp only[Sl.val] at hr3
  have hkz:w2.heap[kb]?=w2.drew.heap[kb]?:=rfl
  have hkl:kb<w2.heap.size:=k2.map.lt
  have hrow:∀ b,((Z5 lk ⟨0,0⟩).getD Z2).val.ownBlock=some b→b≠kb∧XC base w2 b∧b≠sb:=fun b hb=>by
   cases e2:Z5 lk ⟨0,0⟩ with
   | some s =>
    rw[e2] at hb
    refine ⟨(k2.blk e2 hb).2,(k2.blk e2 hb).1,fun e=>?_⟩
    obtain ⟨_,cur,hc⟩:=(k2.blk e2 hb).1
    obtain ⟨es0,k0,hb0,-⟩:=HSN2
    rw[e,hb0] at hc
    cases hc
   | none=>rw[e2] at hb;cases hb
  have hback:∀ b,XC base w2 b→b≠sb→b<w1.heap.size→XC base w1 b:=fun b hb hs hl=>⟨hb.1,by rw[←HXA.out.block b hl hs];exact hb.2⟩
  have hbxl:=Zj d2
  have hbbl:=Zj d3
  have hxx:∀ b,b<w.heap.size→¬ XC base w b→¬ (((Z5 lk ⟨0,0⟩).getD Z2).val.ownBlock=some b):=fun b hl hn e=>by
   obtain ⟨_,r1,r2⟩:=hrow b e
   exact hn (HRW.out b (hback b r1 r2 (by omega)) hl)
  have hS3:w3.cell? ⟨bx,0,none⟩=some (.pointer (some ⟨bb,0,none⟩))∧w3.cell? ⟨bb,2,none⟩=some (.map (some kb))∧w3.cell? ⟨w.heap.size,0,none⟩=some (.int .i64 sn)∧w3.cell? ⟨w.heap.size,1,none⟩=some (.int .i64 sr)∧w3.heap[kb]?=w2.heap[kb]?:=by
   have hX:¬ (((Z5 lk ⟨0,0⟩).getD Z2).val.ownBlock=some w.heap.size):=fun e=>by
    obtain ⟨_,r1,r2⟩:=hrow _ e
    exact HRN.out (hback _ r1 r2 (by omega))
   refine ⟨hx3.keep (Z1 d2 _) (hxx _ HLX.out hnx),hx3.keep (Z1 d3 _) (hxx _ HLB.out hnb),hx3.keep (Z1 y0 _) hX,hx3.keep (Z1 y1 _) hX,?_⟩
   exact (hx3.block kb (by simp;exact Nat.lt_succ_of_lt k2.map.lt) (fun e=>(hrow _ e).1 rfl)).trans (Below.heap_alloc _ _ _ k2.map.lt)
  have HS3:=Lib.hid hS3
  clear hS3 hxx hback hrow
  clear hfin hxb hfil hown0 hown3 hx3 hfr3 hm2 hm3 hs0
  have hS0:(fun W:World=>W.cell? ⟨bx,0,none⟩=some (.pointer (some ⟨bb,0,none⟩))∧W.cell? ⟨bb,2,none⟩=some (.map (some kb))∧W.cell? ⟨w.heap.size,0,none⟩=some (.int .i64 sn)∧W.cell? ⟨w.heap.size,1,none⟩=some (.int .i64 sr)∧W.heap[kb]?=w2.heap[kb]?) w2.drew:=⟨d2,d3,y0,y1,rfl⟩
  refine Zf (fun W:World=>W.cell? ⟨bx,0,none⟩=some (.pointer (some ⟨bb,0,none⟩))∧W.cell? ⟨bb,2,none⟩=some (.map (some kb))∧W.cell? ⟨w.heap.size,0,none⟩=some (.int .i64 sn)∧W.cell? ⟨w.heap.size,1,none⟩=some (.int .i64 sr)∧W.heap[kb]?=w2.heap[kb]?) (fun i=>i == 15) (by kernel_rfl) ?_
  refine JR 0 14 _ rfl rfl hS0 (fun W hW=>by obtain ⟨q0,q1,q2,q3,q4⟩:=hW;go_simp;try rfl) ?_
  try simp only[Ja]
  refine JR 1 15 _ rfl rfl hS0 (fun W hW=>by obtain ⟨q0,q1,q2,q3,q4⟩:=hW;go_simp;try rfl) ?_
  try simp only[Ja]
  refine JR 2 16 _ rfl rfl hS0 (fun W hW=>by obtain ⟨q0,q1,q2,q3,q4⟩:=hW;go_simp;try rfl) ?_
  try simp only[Ja]
  refine JR 3 17 (.map (some kb)) rfl rfl hS0 (fun W hW=>by obtain ⟨q0,q1,q2,q3,q4⟩:=hW;go_simp;try rfl) ?_
  try simp only[Ja]
  refine JR 4 18 (.agg #[.int .i64 0,.int .i64 0]) rfl rfl hS0 (fun W hW=>by obtain ⟨q0,q1,q2,q3,q4⟩:=hW;go_simp;try rfl) ?_
  try simp only[Ja]
  refine JR 5 19 _ rfl rfl hS0 (fun W hW=>by obtain ⟨q0,q1,q2,q3,q4⟩:=hW;go_simp;try rfl) ?_
  try simp only[Ja]
  refine JR 6 20 _ rfl rfl hS0 (fun W hW=>by obtain ⟨q0,q1,q2,q3,q4⟩:=hW;go_simp;try rfl) ?_
  try simp only[Ja]
  refine JR 7 21 _ rfl rfl hS0 (fun W hW=>by obtain ⟨q0,q1,q2,q3,q4⟩:=hW;go_simp;try rfl) ?_
  try simp only[Ja]
  refine JR 8 22 (.map (some kb)) rfl rfl hS0 (fun W hW=>by obtain ⟨q0,q1,q2,q3,q4⟩:=hW;go_simp;try rfl) ?_
  try simp only[Ja]
  refine JR 9 23 (.agg #[.int .i64 0,.int .i64 0]) rfl rfl hS0 (fun W hW=>by obtain ⟨q0,q1,q2,q3,q4⟩:=hW;go_simp;try rfl) ?_
  try simp only[Ja]
  refine JR 10 24 (.slice sa sm sc) rfl rfl hS0 (fun W hW=>by obtain ⟨q0,q1,q2,q3,q4⟩:=hW;have q5:=hlook W q4;go_simp;try rfl) ?_
  try simp only[Ja]
  refine JR 11 25 (.agg #[.int .i64 sn,.int .i64 sr]) rfl rfl hS0 (fun W hW=>by obtain ⟨q0,q1,q2,q3,q4⟩:=hW;go_simp;try rfl) ?_
  try simp only[Ja]
  refine JR 12 26 (.agg #[.int .i64 sn,.int .i64 sr,.int .i64 0,.int .i64 0,.string ⟨#[]⟩]) rfl rfl hS0 (fun W hW=>by obtain ⟨q0,q1,q2,q3,q4⟩:=hW;go_simp;try rfl) ?_
  try simp only[Ja]
  refine Zk (i:=13) (d:=some 27) (v:=.slice (some ⟨w2.heap.size,0,none⟩) 1 1) (w':=w2.drew.alloc (.cells #[.int .i64 sn,.int .i64 sr,.int .i64 0,.int .i64 0,.string ⟨#[]⟩] 53)) (by kernel_rfl) rfl rfl (by rfl) (by go_simp;try rfl) (fun _=>⟨Z1 d2 _,Z1 d3 _,Z1 y0 _,Z1 y1 _,Below.heap_alloc _ _ _ hkl⟩) ?_
  try simp only[Ja]
  refine Zk (i:=14) (d:=some 28) (v:=.slice s3.a s3.n s3.cap) (w':=w3) (by kernel_rfl) rfl rfl (by rfl) (Ym rfl rfl rfl hr3) (fun _=>HS3.out) ?_
  try simp only[Ja]
  refine Zg (i:=15) (d:=none) (w':=Zn w3 kb (Zp lk ⟨0,0⟩) (St.val ⟨0,0⟩) s3.val) (by kernel_rfl) rfl rfl (by rfl) (by go_simp;try rw[hupd]) (fun h=>by cases h) ?_
  try simp only[Ja]
  refine Zd (by kernel_rfl) ?_ _
  go_wp2_with fail
  go_end0
  have hbk:∀ b,XC base w2 b→b=sb∨(b<w.heap.size→XC base w b):=fun b hb=>by
   by_cases e:b=sb
   ·exact .inl e
   ·exact .inr (fun hl=>HRW.out b ⟨hb.1,by rw[←HXA.out.block b (by omega) e];exact hb.2⟩ hl)
  have hnsb:¬ XC base w2 sb:=fun h=>by
   obtain ⟨_,cur,hc⟩:=h
   obtain ⟨es0,k0,hb0,-⟩:=HSN2
   rw[hb0] at hc
   cases hc
  refine ⟨rfl,?_,⟨Zx lk ⟨0,0⟩ s3,?_⟩,?_⟩
  ·rw[HMP.out]
   exact HSN.out.ext HXB.out (fun e=>e.elim (fun e=>hne e) (fun e=>hnsb e))
  ·rw[HMP.out]
   exact HFIN.out
  ·refine (((Ext.of_below (S:=fun k=>k=sb∨k=kb∨XC base w k) HB0.out).andThen HXA.out (fun i hi e=>.inl e)).andThen HXB.out (fun i hi e=>?_))
   rcases e with e|e
   ·exact .inr (.inl e)
   ·rcases hbk i e with h|h
    ·exact .inl h
    ·exact .inr (.inr (h hi))
 ·have hin:(⟨sn,sr⟩:St)=⟨0,0⟩∨∃ c∈C,c.block=⟨sn,sr⟩:=Classical.byContradiction (fun h=>h0 ((HZ.out ⟨sn,sr⟩).2 h))
  have hmp:=Z2B hin
  generalize (Z5 ls ⟨sn,sr⟩).getD 0=q at hlk h0
  have hlk1:=hlk _ m1
  have HLK:=Lib.hid hlk
  clear hin hlk
  go_enter Tryz.func64,Tryz.ntmps64
  go_wp2_with fail
  go_end0
  refine ⟨rfl,?_,⟨lk,?_⟩,?_⟩
  ·rw[hmp]
   refine ⟨ls,m1,HZ.out,fun u v h=>?_⟩
   have:=HV.out u v h
   omega
  ·rw[hmp];exact k1
  ·exact Ext.of_below HB0.out
end Go.Proofs.YtlgipkemoldckaaGreatDoor
