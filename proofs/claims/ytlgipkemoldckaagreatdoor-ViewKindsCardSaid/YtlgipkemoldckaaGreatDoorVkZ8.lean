/- ViewKinds, part 8 of what the proof leans on (made short by a program). -/
import Derived.Test.YtlgipkemoldckaaGreatDoorVkZ7
set_option linter.unusedSimpArgs false
set_option linter.unusedVariables false
set_option linter.unusedSectionVars false
set_option maxRecDepth 20000
set_option maxHeartbeats 30000000
namespace Go.Proofs.YtlgipkemoldckaaGreatDoor
open Go.RowKit
def QM (R:Nat→Prop) (J:World→Prop) (W:World):Exit→Act→World→Prop
 | .normal,_,W'=>J W'∧Ext R W W'
 | .ret,_,_=>False
 | .exit _,_,_=>False
 | .goto _,_,_=>False
 | .panic _,_,_=>False
 | .outgrown,_,_=>False
theorem Yc (w:World) (l:Nat) (o:Obj):Ext (·=l) w (w.putObj l o) :=
 ⟨rfl,rfl,rfl,by simp[World.putObj],fun k hk hn=>World.putObj_heap_other (by omega)⟩
def Uz {U:Type} (P:Program) (n gf:Nat) (lb:Array Value) (encs:U→Array Value) (R:Nat→Prop) (xs:List U) (w:World):Prop :=
 ∀ (l:Nat) (I:List U→World→Prop) (W:World),w.heap.size<l→Below w.heap.size w W→(∀ pre W W',I pre W→Ext (fun _=>False) W W'→I pre W') →
  (∀ pre x W1,I pre W1→pre++[x] <+: xs→YieldAt Fence.wide (n - 1) P l (encs x) W1 fun e W'=>e=.returned (.bool true)∧I (pre++[x]) W'∧Ext (fun k=>k=l∨R k) W1 W')→I [] W →
  CallsIn Fence.wide n P gf (#[.func (.yield l) #[] #[]]++lb) W fun e W'=>(∃ v,e=.returned v)∧I xs W'
theorem Ss {U:Type} {P:Program} {n:Nat} (h1:1≤n) {g:Operand} {ps:Array Tmp} {assign body:Code} {Q:Exit→Act→World→Prop} {a:Act} {w:World} {gf:Nat} {lb:Array Value}
  (hg:a.eval g=.func (.func gf) #[] lb) (eg:∀ args w,(callFunc gf args).run P w=.ok (.enter gf args) w)
  (encs:U→Array Value) (hps:∀ x,(encs x).size=ps.size) (R:Nat→Prop) (hR:∀ k,R k→k≠w.heap.size∧k≠w.heap.size+1) (xs:List U)
  (J:List U→World→Prop) (hJ:∀ pre W W',J pre W→Ext (fun k=>k=w.heap.size∨k=w.heap.size+1) W W'→J pre W')
  (hseq:Uz P (n - 1) gf lb encs R xs w)
  (h00:J [] w)
  (hround:∀ (l:Nat) (pre:List U) (x:U) (W:World),J pre W→pre++[x] <+: xs→w.heap.size+1<W.heap.size →
   assign.wpIn (Fence.wide.inRound l) (n - 1 - 1) P (Exit.then (fun a₁ W₁=>Ext (fun _=>False) W W₁∧J pre W₁∧∀ W₂,J pre W₂→Ext (fun k=>k=w.heap.size+1) W₁ W₂→body.wpIn (Fence.wide.inRound l) (n - 1 - 1) P (QM R (J (pre++[x])) W₂) a₁ W₂) (fun _ _ _=>False))
    { tmps:=(ps.zip (encs x)).foldl (fun t (p,v)=>t.setIfInBounds p v) a.tmps,defers:=[] } W)
  (hdone:∀ W,J xs W→W.heap[w.heap.size]?=some (.deferred (some []))→Q .normal { a with defers:={ target:=.collected w.heap.size,args:=#[] } :: a.defers } W) :
  (Code.rangeFunc g ps assign body).wpIn Fence.wide n P Q a w:=by
 refine wpIn_rangeFunc ?_
 intro fn hfn
 obtain ⟨rec,hrec⟩:∃ rec:LoopState→Option Code→Loop,rec=fun st pe=>{ state:=st,pending:=pe,fn,tmps:=a.tmps,params:=ps,assign,body,defers:=w.heap.size }:=⟨_,rfl⟩
 obtain ⟨W1,hW1⟩:=Je ((w.alloc (.deferred (some []))).alloc (.loop (rec .ready none)))
 have hL1:W1.heap[w.heap.size+1]?=some (.loop (rec .ready none)):=by
  rw[←hW1];have:=World.alloc_heap_new (w.alloc (.deferred (some []))) (.loop (rec .ready none));rwa [World.size_alloc] at this
 have hK1:W1.heap[w.heap.size]?=some (.deferred (some [])):=by
  rw[←hW1];exact (Below.heap_alloc _ _ _ (by simp)).trans (World.alloc_heap_new w _)
 have hb1:Below w.heap.size w W1:=by
  rw[←hW1];exact (((Below.refl _ w).alloc (Nat.le_refl _) _).alloc (by simp) _)
 have hJ1:J [] W1:=hJ _ _ _ h00 (Ext.of_below hb1)
 refine ⟨w.heap.size+1,[{ target:=.collected w.heap.size,args:=#[] }],W1,{ target:=.fn (.func gf) lb,args:=#[.func (.yield (w.heap.size+1)) #[] #[]] },W1,gf,
  #[.func (.yield (w.heap.size+1)) #[] #[]]++lb,W1,?_,?_,?_,?_,fun _=>h1,?_⟩
 ·rw[←hW1,hrec];exact run_enterLoop_outer _ _ _ _ _
 ·simp only[resolve,hg]
  simp[go_sem]
 ·intro f' hf';trivial
 ·simp[invoke,go_sem,eg]
 ·refine (hseq (w.heap.size+1)
   (fun pre W=>J pre W∧W.heap[w.heap.size+1]?=some (.loop (rec .ready none))∧W.heap[w.heap.size]?=some (.deferred (some [])))
   W1 (Nat.lt_succ_self _) hb1
   (fun pre A B hs hx=>⟨hJ _ _ _ hs.1 (hx.mono (fun _ _ f=>f.elim)),(hx.block _ (Array.getElem?_eq_some_iff.1 hs.2.1).1 id).trans hs.2.1,(hx.block _ (Array.getElem?_eq_some_iff.1 hs.2.2).1 id).trans hs.2.2⟩)
   ?_ ⟨hJ1,hL1,hK1⟩).mono ?_
  ·rintro pre x W ⟨hi,hl,hk⟩ hpx
   have hlt:w.heap.size+1<W.heap.size:=(Array.getElem?_eq_some_iff.1 hl).1
   have hy:=run_yield (P:=P) (args:=encs x) hl (by rw[hrec];exact hps x)
   rw[hrec] at hy
   refine ⟨fn,_,assign,body,hy,roundIn_of_wpIn hfn (wpIn_mono (hround _ pre x W hi hpx hlt) ?_)⟩
   rintro e a1 W' hp
   cases e with
   | normal =>
    obtain ⟨hxa,hja,hbody⟩:=hp
    have hla:=(hxa.block _ hlt id).trans hl
    have hka:=(hxa.block _ (by omega) id).trans hk
    have hlt':w.heap.size+1<W'.heap.size:=(Array.getElem?_eq_some_iff.1 hla).1
    refine ⟨_,run_beginRound hla (by rw[hrec]),?_⟩
    have hl2:(W'.putObj (w.heap.size+1) (.loop { rec .ready none with state:=.busy })).heap[w.heap.size+1]?=some (.loop { rec .ready none with state:=.busy }):=World.putObj_heap_same hlt'
    have hk2:(W'.putObj (w.heap.size+1) (.loop { rec .ready none with state:=.busy })).heap[w.heap.size]?=some (.deferred (some [])):=(World.putObj_heap_other (by omega)).trans hka
    have hx2:Ext (fun k=>k=w.heap.size+1) W' (W'.putObj (w.heap.size+1) (.loop { rec .ready none with state:=.busy })):=Yc _ _ _
    have hmono:∀ {A B:World},Ext (fun k=>k=w.heap.size+1) A B→Ext (fun k=>k=w.heap.size∨k=w.heap.size+1) A B:=fun hx=>hx.mono (fun k _ hk=>.inr hk)
    refine wpIn_mono (hbody _ (hJ _ _ _ hja (hmono hx2)) hx2) ?_
    have s1:=(Array.getElem?_eq_some_iff.1 hl2).1
    have s0:=(Array.getElem?_eq_some_iff.1 hk2).1
    have nR1:¬ R (w.heap.size+1):=fun h=>(hR _ h).2 rfl
    have nR0:¬ R w.heap.size:=fun h=>(hR _ h).1 rfl
    rintro e a3 W3 hp
    cases e with
    | normal =>
     obtain ⟨hj3,hx3⟩:=hp
     have hl3:=(hx3.block _ s1 nR1).trans hl2
     have hk3:=(hx3.block _ s0 nR0).trans hk2
     have hr:=run_endRound (P:=P) none hl3
     rw[hrec] at hr
     refine ⟨_,_,hr,rfl,⟨hJ _ _ _ hj3 (hmono (Yc _ _ _)),?_,(World.putObj_heap_other (by omega)).trans hk3⟩,?_⟩
     ·rw[hrec];exact World.putObj_heap_same (Array.getElem?_eq_some_iff.1 hl3).1
     ·have e1:Ext (fun k=>k=w.heap.size+1∨R k) W W':=hxa.mono (fun _ _ f=>f.elim)
      have e2:Ext (fun k=>k=w.heap.size+1∨R k) W' (W'.putObj (w.heap.size+1) (.loop { rec .ready none with state:=.busy })):=hx2.mono (fun _ _ h=>.inl h)
      have e3:Ext (fun k=>k=w.heap.size+1∨R k) (W'.putObj (w.heap.size+1) (.loop { rec .ready none with state:=.busy })) W3:=hx3.mono (fun _ _ h=>.inr h)
      exact ((e1.trans e2).trans e3).trans ((Yc _ _ _).mono (fun _ _ h=>.inl h))
    | ret=>exact hp.elim
    | exit id=>exact hp.elim
    | goto t=>exact hp.elim
    | panic ch=>exact hp.elim
    | outgrown=>exact hp.elim
   | ret=>exact hp.elim
   | exit id=>exact hp.elim
   | goto t=>exact hp.elim
   | panic ch=>exact hp.elim
   | outgrown=>exact hp.elim
  ·rintro e W2 ⟨⟨v,rfl⟩,hi,hl,hk⟩
   refine ⟨none,_,by have:=run_endLoop (P:=P) hl (by rw[hrec];simp);rw[hrec] at this;exact this,hdone _ (hJ _ _ _ hi ?_) ((World.putObj_heap_other (by omega)).trans hk)⟩
   have hx:=Yc W2 (w.heap.size+1) (.loop { (rec .ready none) with state:=.exhausted })
   rw[hrec] at hx
   exact hx.mono (fun k _ hk=>.inr hk)
section
variable {α:Type} {ea:α→List Value} {k:Nat} {w:World} {v:Value} {l:List α}
theorem Z5.ext {S:Nat→Prop} {w':World} (h:Z5 ea k w v l) (hx:Ext S w w') (hn:∀ b o n cap,v=.slice (some ⟨b,o,none⟩) n cap→¬ S b):Z5 ea k w' v l:=by
 obtain ⟨a,cap,rfl,h2,h3,h4⟩:=h
 refine ⟨a,cap,rfl,h2,h3,fun hl=>?_⟩
 obtain ⟨b,off,h5,h6⟩:=h4 hl
 exact ⟨b,off,h5,fun i x hi j u hj=>hx.keep (h6 i x hi j u hj) (hn b off l.length cap (by rw[h5]))⟩
end
def Ze {α:Type} (l:List α):List (Nat × α):=(l.zipIdx.map fun p=>(p.2,p.1)).reverse
theorem XB {α:Type} (l:List α):(Ze l).length=l.length:=by simp[Ze]
theorem Z07 {α:Type} (l:List α) {k:Nat} {x:α} (hk:l[k]?=some x):(Ze l)[l.length - (k+1)]?=some (k,x):=by
 have hkl:=(List.getElem?_eq_some_iff.1 hk).1
 unfold Ze
 rw[List.getElem?_reverse (by simp;omega)]
 simp only[List.length_map,List.length_zipIdx]
 rw[show l.length - 1 - (l.length - (k+1))=k by omega]
 simp[hk]
theorem Ta {α:Type} (l:List α) {k:Nat} {x:α} (hk:l[k]?=some x):(Ze l).take (l.length - (k+1))++[(k,x)]=(Ze l).take (l.length - k):=by
 have hkl:=(List.getElem?_eq_some_iff.1 hk).1
 rw[show l.length - k=(l.length - (k+1))+1 by omega,List.take_add_one,Z07 l hk]
 rfl
attribute [local go_sem] Oper.semAt_some
theorem Z0h (va:Option Addr) (m vc:Nat) (w:World):Calls Tryz.prog 94 #[.slice va m vc] w
  fun e w'=>e=.returned (.func (.func 127) #[] #[.pointer (some ⟨w.heap.size,0,none⟩)])∧w'=w.alloc (.cells #[.slice va m vc] 34):=by
 go_enter Tryz.func94,Tryz.ntmps94
 go_wp2_with fail
 go_ret
 exact ⟨rfl,rfl⟩
theorem RM (n:Nat) (hn:1≤n) (Bs:Nat) (v:Value) (l:List El) (R:Nat→Prop) (w:World) (hv:Z5 El.cells 4 w v l) (hsz:l.length≤1000000) (hB:w.cell? ⟨Bs,0,none⟩=some v) (hRB:¬ R Bs) (hRv:l≠[]→∀ b o m c,v=.slice (some ⟨b,o,none⟩) m c→¬ R b∧b<w.heap.size) :
  Uz Tryz.prog n 127 #[.pointer (some ⟨Bs,0,none⟩)] (fun x:Nat × El=>#[.int .i64 x.1,.agg #[.int .i64 x.2.id.n,.int .i64 x.2.id.r,.int .i64 x.2.ch,.bool x.2.gone]]) R (Ze l) w:=by
 intro lb I W hl hb hI hY h0
 obtain ⟨va,vc,rfl,hcap,hmax,hcs⟩:=hv
 unfold maxLen at hmax
 have hBl:=Zj hB
 have HC:=Lib.hid hcs
 have HI:=Lib.hid hI
 have HY:=Lib.hid hY
 have HB:=Jh (Z0 hb hB)
 have HV:=Lib.hid hRv
 have HBB:=Lib.hid hb
 clear hcs hI hY hRv hb hB
 refine callsIn_of_wp Tryz.func127 rfl trivial ?_ rfl
 simp only[Tryz.ntmps127,List.size_toArray,List.length_cons,List.length_nil,Nat.reduceAdd,Nat.reduceSub,Array.replicate_succ,Array.replicate_zero,List.push_toArray,List.append_toArray,List.nil_append,List.cons_append]
 have b0:=HB.out
 gi_wp2
 have hS0:Z5 El.cells 4 W (.slice va l.length vc) l:=(show Z5 El.cells 4 w (.slice va l.length vc) l from ⟨va,vc,rfl,hcap,by unfold maxLen;omega,HC.out⟩).ext (Ext.mono (S:=fun _=>False) ⟨HBB.out.os,HBB.out.tape,HBB.out.output,HBB.out.size,fun k hk _=>HBB.out.block k hk⟩ (fun _ _ h=>h)) (fun _ _ _ _ _ h=>h)
 gi_loopw [3] (fun iv wr=>∃ (k:Nat) (j:Int),j+1=(k:Int)∧k≤l.length∧iv=.int .i64 j∧wr.cell? ⟨Bs,0,none⟩=some (.slice va l.length vc)∧Z5 El.cells 4 wr (.slice va l.length vc) l∧I ((Ze l).take (l.length - k)) wr) (fun iv _=>(intOf iv+1).toNat)
 case atStart=>exact ⟨l.length,(l.length:Int) - 1,by omega,Nat.le_refl _,rfl,HB.out,hS0,by rw[Nat.sub_self];exact h0⟩
 case round =>
  clear b0 hS0 h0
  obtain ⟨k,j,hj,hk,rfl,b0,hS,hi⟩:=hrel
  by_cases hk0:0<k
  ·obtain ⟨q,rfl⟩:∃ q,k=q+1:=⟨k - 1,by omega⟩
   obtain rfl:j=(q:Int):=by omega
   obtain ⟨x,hx⟩:∃ x,l[q]?=some x:=⟨_,List.getElem?_eq_getElem (by omega)⟩
   obtain ⟨_,_,e1,_,_,h4⟩:=id hS
   cases e1
   obtain ⟨b,o,rfl,hcc⟩:=h4 (by intro e;rw[e] at hx;simp at hx)
   have x0:wr.cell? ⟨b,o+q*4,none⟩=some (.int .i64 x.id.n):=hcc q x hx 0 _ rfl
   have x1:wr.cell? ⟨b,o+q*4+1,none⟩=some (.int .i64 x.id.r):=hcc q x hx 1 _ rfl
   have x2:wr.cell? ⟨b,o+q*4+2,none⟩=some (.int .i64 x.ch):=hcc q x hx 2 _ rfl
   have x3:wr.cell? ⟨b,o+q*4+3,none⟩=some (.bool x.gone):=hcc q x hx 3 _ rfl
   have HT:=Jh (Ta l hx)
   have hne0:l≠[]:=by intro e;rw[e] at hx;simp at hx
   obtain ⟨fn,tmps,assign,body,hy,hR⟩:=HY.out ((Ze l).take (l.length - (q+1))) (q,x) wr hi (by rw[HT.out];exact List.take_prefix _ _)
   dsimp only at hy
   have hql:(q:Int)<(l.length:Int):=by omega
   clear hcc h4 hx hj
   gi_wp2
   refine hR.mono ?_
   rintro e W3 ⟨rfl,hI3,hx3⟩
   obtain ⟨v1,v2⟩:=HV.out hne0 b o _ _ rfl
   have hne:¬ (Bs=lb∨R Bs):=fun h=>by
    rcases h with h|h
    ·omega
    ·exact hRB h
   have B3:=Jh (hx3.keep b0 hne)
   have S3:=Jh (hS.ext hx3 (fun b' o' m c e h=>by
    cases e
    rcases h with h|h
    ·omega
    ·exact v1 h))
   rw[HT.out] at hI3
   clear b0 hS x0 x1 x2 x3 hi hx3 hy hR v1 v2 hne
   gi_wp2
   go_roundw
   case rel=>exact ⟨q,(q:Int) - 1,by omega,by omega,rfl,B3.out,S3.out,hI3⟩
   case measure=>simp[intOf]
  ·obtain rfl:k=0:=by omega
   obtain rfl:j=-1:=by omega
   gi_wp2
   go_end0
   have e0:(Ze l).take (l.length - 0)=Ze l:=List.take_of_length_le (by rw[XB];omega)
   rw[e0] at hi
   exact ⟨⟨_,rfl⟩,hi⟩
section
variable {P:Program} {α:Type} {ea:α→List Value} {k sz blk n:Nat} {T:TypeId} {w:World} {f:Nat→α}
theorem Uo (b o j:Nat):(⟨b,o,none⟩:Addr).add j=⟨b,o+j,none⟩:=by unfold Addr.add;split <;> simp_all
structure XW (P:Program) (T:TypeId) (k:Nat):Prop where
 agg:∀ w,(isAgg T).run P w=.ok true w
 size:∀ w,(sizeOf T).run P w=.ok k w
theorem Z9.load (h:Z9 ea k T sz w blk n f) (hk:∀ x,(ea x).length=k) (ht:XW P T k) {i:Nat} (hi:i<n) :
  (Instr.loadAt T (.pointer (some ⟨blk,i*k,none⟩))).run P w=.ok (.agg (ea (f i)).toArray) w:=by
 have hl:=run_loadCells_list (P:=P) w ⟨blk,i*k,none⟩ (ea (f i)) (fun j v hj=>by rw[Uo];exact h.cell hi hj)
 rw[hk] at hl
 simp[Instr.loadAt,Instr.sureAddr,loadVar,ht.agg,ht.size,hl]
theorem Z9.store (h:Z9 ea k T sz w blk n f) (hk:∀ x,(ea x).length=k) (h1:∀ x,∀ u∈ea x,u.oneCell'=true) (ht:XW P T k) {i:Nat} (hi:i<n) (x:α) :
  ∃ w',(Instr.storeAt T (.pointer (some ⟨blk,i*k,none⟩)) (.agg (ea x).toArray)).run P w=.ok () w'∧Z9 ea k T sz w' blk n (upd f i x)∧Ext (·=blk) w w':=by
 obtain ⟨cur,hg,hs,hn,hf⟩:=h
 have hik:i*k+k≤n*k:=by
  have:=Nat.mul_le_mul_right k (show i+1≤n from hi)
  rwa [Nat.add_mul,Nat.one_mul] at this
 have hst:=run_storeCells_at P blk (i*k) T (ea x) 0 cur w hg (by rw[hk];omega) (h1 x)
 rw[hk,Nat.add_zero] at hst
 refine ⟨w.setRow blk (cur.toList.take (i*k)++ea x++cur.toList.drop (i*k+k)).toArray,?_,⟨_,setRow_heap w blk _ _ _ _ hg,?_,hn,fun p hp j u hj=>?_⟩,⟨rfl,rfl,rfl,by simp[World.setRow],fun q hq hn=>by simp[World.setRow,Array.getElem?_modify];intro e;exact absurd e.symm hn⟩⟩
 ·simp[Instr.storeAt,Instr.sureAddr,storeVar,ht.size,Value.cells,hk,hst]
 ·rw[List.size_toArray,List.length_append,List.length_append,List.length_take,List.length_drop,hk,Array.length_toList]
  omega
 ·have hjk:∀ y,(ea y)[j]?=some u→j<k:=fun y hy=>by rw[←hk y];exact (List.getElem?_eq_some_iff.1 hy).1
  rw[List.getElem?_toArray,List.append_assoc]
  by_cases hpi:p=i
  ·subst hpi
   rw[Ri] at hj
   have:=hjk x hj
   rw[List.getElem?_append_right (by rw[List.length_take,Array.length_toList];omega),List.length_take,Array.length_toList,Nat.min_eq_left (by omega),show p*k+j - p*k=j by omega,List.getElem?_append_left (by rw[hk];exact this)]
   exact hj
  ·rw[Sx _ _ hpi] at hj
   have hjl:=hjk (f p) hj
   have h0:=hf p hp j u hj
   rcases Nat.lt_or_gt_of_ne hpi with hlt|hgt
   ·have:=Nat.mul_le_mul_right k (show p+1≤i from hlt)
    rw[Nat.add_mul,Nat.one_mul] at this
    rw[List.getElem?_append_left (by rw[List.length_take,Array.length_toList];omega),List.getElem?_take,if_pos (by omega),Array.getElem?_toList]
    exact h0
   ·have:=Nat.mul_le_mul_right k (show i+1≤p from hgt)
    rw[Nat.add_mul,Nat.one_mul] at this
    rw[List.getElem?_append_right (by rw[List.length_take,Array.length_toList];omega),List.length_take,Array.length_toList,Nat.min_eq_left (by omega),List.getElem?_append_right (by rw[hk];omega),hk,List.getElem?_drop,show i*k+k+(p*k+j - i*k - k)=p*k+j by omega,Array.getElem?_toList]
    exact h0
theorem VA {α:Type} (f:Nat→α) (p q:Nat):Ym f p q=upd (upd f p (f q)) q (f p):=by
 funext t
 unfold Ym upd
 by_cases h1:t=p <;> by_cases h2:t=q <;> simp_all
theorem ZT {o:Oper} {ρ:Operand→Value} {T:TypeId} {x:Operand} {q v:Value} {W:World} (ho:o.op=.load T x) (hx:ρ x=q) (h:(Instr.loadAt T q).run P W=.ok v W):(execOp ρ o).run P W=.ok (.value v) W:=by
 unfold execOp;simp[ho,hx,h,Result.andThen]
theorem YW {o:Oper} {ρ:Operand→Value} {T:TypeId} {p x:Operand} {q v:Value} {W W':World} (ho:o.op=.store T p x) (hp:ρ p=q) (hx:ρ x=v) (h:(Instr.storeAt T q v).run P W=.ok () W'):(execOp ρ o).run P W=.ok .skip W':=by
 unfold execOp;simp[ho,hp,hx,h,Result.andThen]
theorem Vc {F:Fence} {m:Nat} {ops:Array Oper} {rest:List Oper} {o:Oper} {a:Act} {Q:Exit→Act→World→Prop} {W:World} (hg:o.guard=none) {x:Operand} {q v:Value} (ho:o.op=.load T x) (hx:a.eval x=q)
  (hr:(Instr.loadAt T q).run P W=.ok v W) (h:wpListIn F m P ops Q rest (a.put o.dst v) W):wpListIn F m P ops Q (o :: rest) a W:=by
 refine wpListIn_plain hg fun K hK'=>?_
 unfold Oper.wpIn
 refine ⟨?_,?_⟩
 ·simp[Oper.about,ho]
 ·rw[Oper.semAt_plain F _ _ (by rw[ho];intro c hc';cases hc')]
  simp[execOp,ho,hx,hr,Result.andThen]
  exact hK' _ _ h
theorem XK {ops:Array Oper} {rest:List Oper} {o:Oper} {a:Act} {Q:Exit→Act→World→Prop} {W:World} (hg:o.guard=none) {x:Operand} {q v:Value} (ho:o.op=.load T x) (hx:a.eval x=q)
  (hr:(Instr.loadAt T q).run P W=.ok v W) (h:wpList P ops Q rest (a.put o.dst v) W):wpList P ops Q (o :: rest) a W :=
 wpList_plain hg fun _ hK=>by
  rw[Oper.wp,ZT ho hx hr]
  exact hK _ _ h
end
attribute [local go_sem] Oper.semAt_some
theorem Z0a (va:Option Addr) (m vc:Nat) (w:World):Calls Tryz.prog 96 #[.slice va m vc] w
  fun e w'=>e=.returned (.func (.func 128) #[] #[.pointer (some ⟨w.heap.size,0,none⟩)])∧w'=w.alloc (.cells #[.slice va m vc] 37):=by
 go_enter Tryz.func96,Tryz.ntmps96
 go_wp2_with fail
 go_ret
 exact ⟨rfl,rfl⟩
theorem Q0 (n:Nat) (hn:1≤n) (Bs:Nat) (v:Value) (l:List OpD) (R:Nat→Prop) (w:World) (hv:Z5 OpD.cells 26 w v l) (hsz:l.length≤1000000) (hB:w.cell? ⟨Bs,0,none⟩=some v) (hRB:¬ R Bs) (hRv:l≠[]→∀ b o m c,v=.slice (some ⟨b,o,none⟩) m c→¬ R b∧b<w.heap.size) :
  Uz Tryz.prog n 128 #[.pointer (some ⟨Bs,0,none⟩)] (fun x:Nat × OpD=>#[.int .i64 x.1,.agg (OpD.cells x.2).toArray]) R (Ze l) w:=by
 intro lb I W hl hb hI hY h0
 obtain ⟨va,vc,rfl,hcap,hmax,hcs⟩:=hv
 unfold maxLen at hmax
 have hBl:=Zj hB
 have HC:=Lib.hid hcs
 have HI:=Lib.hid hI
 have HY:=Lib.hid hY
 have HB:=Jh (Z0 hb hB)
 have HV:=Lib.hid hRv
 have HBB:=Lib.hid hb
 clear hcs hI hY hRv hb hB
 refine callsIn_of_wp Tryz.func128 rfl trivial ?_ rfl
 simp only[Tryz.ntmps128,List.size_toArray,List.length_cons,List.length_nil,Nat.reduceAdd,Nat.reduceSub,Array.replicate_succ,Array.replicate_zero,List.push_toArray,List.append_toArray,List.nil_append,List.cons_append]
 have b0:=HB.out
 gi_wp2
 have hS0:Z5 OpD.cells 26 W (.slice va l.length vc) l:=(show Z5 OpD.cells 26 w (.slice va l.length vc) l from ⟨va,vc,rfl,hcap,by unfold maxLen;omega,HC.out⟩).ext (Ext.mono (S:=fun _=>False) ⟨HBB.out.os,HBB.out.tape,HBB.out.output,HBB.out.size,fun k hk _=>HBB.out.block k hk⟩ (fun _ _ h=>h)) (fun _ _ _ _ _ h=>h)
 gi_loopw [3] (fun iv wr=>∃ (k:Nat) (j:Int),j+1=(k:Int)∧k≤l.length∧iv=.int .i64 j∧wr.cell? ⟨Bs,0,none⟩=some (.slice va l.length vc)∧Z5 OpD.cells 26 wr (.slice va l.length vc) l∧I ((Ze l).take (l.length - k)) wr) (fun iv _=>(intOf iv+1).toNat)
 case atStart=>exact ⟨l.length,(l.length:Int) - 1,by omega,Nat.le_refl _,rfl,HB.out,hS0,by rw[Nat.sub_self];exact h0⟩
 case round =>
  clear b0 hS0 h0
  obtain ⟨k,j,hj,hk,rfl,b0,hS,hi⟩:=hrel
  by_cases hk0:0<k
  ·obtain ⟨q,rfl⟩:∃ q,k=q+1:=⟨k - 1,by omega⟩
   obtain rfl:j=(q:Int):=by omega
   obtain ⟨x,hx⟩:∃ x,l[q]?=some x:=⟨_,List.getElem?_eq_getElem (by omega)⟩
   obtain ⟨_,_,e1,_,_,h4⟩:=id hS
   cases e1
   obtain ⟨b,o,rfl,hcc⟩:=h4 (by intro e;rw[e] at hx;simp at hx)
   have hld:(Instr.loadAt 181 (.pointer (some ⟨b,o+q*26,none⟩))).run Tryz.prog wr=.ok (.agg (OpD.cells x).toArray) wr:=by
    have hl:=run_loadCells_list (P:=Tryz.prog) wr ⟨b,o+q*26,none⟩ (OpD.cells x) (fun j v hj=>by rw[Uo];exact hcc q x hx j v hj)
    rw[OpD.len] at hl
    simp[Instr.loadAt,Instr.sureAddr,loadVar,Tryz.isAgg181,Tryz.sizeOf181,hl]
   have HT:=Jh (Ta l hx)
   have hne0:l≠[]:=by intro e;rw[e] at hx;simp at hx
   obtain ⟨fn,tmps,assign,body,hy,hR⟩:=HY.out ((Ze l).take (l.length - (q+1))) (q,x) wr hi (by rw[HT.out];exact List.take_prefix _ _)
   dsimp only at hy
   have hql:(q:Int)<(l.length:Int):=by omega
   clear hcc h4 hx hj
   have HLD:=Lib.hid hld
   clear hld
   gi_wp2_with (refine Vc (o:=⟨some 16,_,_,_,_,_⟩) rfl rfl rfl HLD.out ?_)
   refine hR.mono ?_
   rintro e W3 ⟨rfl,hI3,hx3⟩
   obtain ⟨v1,v2⟩:=HV.out hne0 b o _ _ rfl
   have hne:¬ (Bs=lb∨R Bs):=fun h=>by
    rcases h with h|h
    ·omega
    ·exact hRB h
   have B3:=Jh (hx3.keep b0 hne)
   have S3:=Jh (hS.ext hx3 (fun b' o' m c e h=>by
    cases e
    rcases h with h|h
    ·omega
    ·exact v1 h))
   rw[HT.out] at hI3
   clear b0 hS HLD hi hx3 hy hR v1 v2 hne
   gi_wp2
   go_roundw
   case rel=>exact ⟨q,(q:Int) - 1,by omega,by omega,rfl,B3.out,S3.out,hI3⟩
   case measure=>simp[intOf]
  ·obtain rfl:k=0:=by omega
   obtain rfl:j=-1:=by omega
   gi_wp2
   go_end0
   have e0:(Ze l).take (l.length - 0)=Ze l:=List.take_of_length_le (by rw[XB];omega)
   rw[e0] at hi
   exact ⟨⟨_,rfl⟩,hi⟩
def Yy (i:Int):Value:=.int .i64 i
theorem Wa:Tryz.prog.underlying 135=some (.map 23 3):=by kernel_rfl
theorem U4 (w:World):(zeroValue 3).run Tryz.prog w=.ok (.int .i64 0) w:=by kernel_rfl
attribute [local go_sem] Z6.alloc Z6.drew Z6.setCell
def atI (hl:List (St × Int)) (a:St) (aft:Bool):Int:=(Z3 hl a).getD 0+if aft=true then 1 else 0
theorem Z2a (pb mh:Nat) (hl:List (St × Int)) (a:St) (aft:Bool) (w:World) (hc:w.cell? ⟨pb,0,none⟩=some (.map (some mh))) (hm:Z6 St.val Yy w mh hl) (hb:∀ k i,Z3 hl k=some i→0≤i∧i≤1000) :
  Calls Tryz.prog 95 #[.agg #[.int .i64 a.n,.int .i64 a.r,.bool aft],.pointer (some ⟨pb,0,none⟩)] w
   fun e w'=>e=.returned (.tuple #[.int .i64 (atI hl a aft),.bool (Z3 hl a).isSome])∧Below w.heap.size w w':=by
 have hlt:=Zj hc
 have hi:0≤(Z3 hl a).getD 0∧(Z3 hl a).getD 0≤1000:=by
  cases h:Z3 hl a with
  | none=>simp
  | some i=>exact hb a i h
 have hlk:∀ W,Z6 St.val Yy W mh hl→(Instr.lookup 135 (.map (some mh)) (.agg #[.int .i64 a.n,.int .i64 a.r]) true).run Tryz.prog W=.ok (.tuple #[.int .i64 ((Z3 hl a).getD 0),.bool (Z3 hl a).isSome]) W:=fun W hW=>by
  have:=hW.lookupOk ZN Wa U4 a
  rw[show ((Z3 hl a).map Yy).getD (.int .i64 0)=.int .i64 ((Z3 hl a).getD 0) from by cases Z3 hl a <;> rfl] at this
  exact this
 unfold atI
 generalize (Z3 hl a).getD 0=i at *
 generalize (Z3 hl a).isSome=is at *
 obtain ⟨i0,i1⟩:=hi
 clear hb
 cases aft with
 | false =>
  go_enter Tryz.func95,Tryz.ntmps95
  go_wp2_with fail
  go_ret2
  exact ⟨by simp,(Below.refl _ _).alloc (Nat.le_refl _) _⟩
 | true =>
  go_enter Tryz.func95,Tryz.ntmps95
  go_wp2_with fail
  go_ret2
  exact ⟨by simp,(Below.refl _ _).alloc (Nat.le_refl _) _⟩
def Zy (pre:List (Nat × El)):List (St × Int):=pre.foldl (fun h p=>Zw h p.2.id (p.1:Int)) []
theorem QE (pre:List (Nat × El)) (x:Nat × El):Zy (pre++[x])=Zw (Zy pre) x.2.id (x.1:Int):=by simp[Zy]
def ZP (l:List El) (k:St):Option Nat:=l.findIdx? (fun x=>decide (x.id=k))
theorem SW (k:St):∀ (l:List El) (n:Nat),Z3 (((l.zipIdx n).map fun p=>(p.2,p.1)).foldr (fun (p:Nat × El) h=>Zw h p.2.id (p.1:Int)) []) k=(ZP l k).map (fun i=>((n+i:Nat):Int))
 | [],n=>by simp[ZP,Z3]
 | x :: l,n=>by
  have ih:=SW k l (n+1)
  simp only[List.zipIdx_cons,List.map_cons,List.foldr_cons]
  unfold ZP at ih ⊢
  rw[List.findIdx?_cons]
  by_cases h:x.id=k
  ·subst h
   rw[ZW]
   simp
  ·rw[ZF _ _ h,ih]
   simp only[h,decide_false,Bool.false_eq_true,if_false,Option.map_map]
   congr 1
   funext i
   simp only[Function.comp_apply]
   omega
theorem VF (l:List El) (k:St):Z3 (Zy (Ze l)) k=(ZP l k).map (fun i:Nat=>(i:Int)):=by
 unfold Zy Ze
 rw[List.foldl_reverse]
 have:=SW k l 0
 simp only[Nat.zero_add] at this
 exact this
theorem Um {l:List El} {k:St} {i:Nat} (h:ZP l k=some i):i<l.length:=by
 unfold ZP at h
 rw[List.findIdx?_eq_some_iff_findIdx_eq] at h
 exact h.1
theorem QA {l:List El} (hl:l.length≤1000) (k:St) (i:Int) (h:Z3 (Zy (Ze l)) k=some i):0≤i∧i≤1000:=by
 rw[VF] at h
 cases hp:ZP l k with
 | none=>rw[hp] at h;cases h
 | some j =>
  rw[hp] at h
  have:=Um hp
  simp at h
  omega
theorem Z0c {α:Type} {l:List α} {x:Nat × α} (h:x∈Ze l):x.2∈l:=by
 unfold Ze at h
 rw[List.mem_reverse,List.mem_map] at h
 obtain ⟨⟨y,i⟩,h1,rfl⟩:=h
 exact List.mem_of_getElem? (List.mem_zipIdx_iff_getElem?.1 h1)
def Yj (h:List (St × Int)) (o:OpD):Option Zb:=if ((Z3 h o.fr).isSome && (Z3 h o.tr).isSome)=true then some ⟨o,atI h o.fr o.fa,atI h o.tr o.ta⟩ else none
def Yw (h:List (St × Int)) (pre:List (Nat × OpD)):List Zb:=pre.filterMap fun p=>Yj h p.2
theorem R6 (h:List (St × Int)) (pre:List (Nat × OpD)) (x:Nat × OpD):Yw h (pre++[x])=Yw h pre++(Yj h x.2).toList:=by
 unfold Yw
 rw[List.filterMap_append]
 congr 1
theorem VR (h:List (St × Int)) (pre:List (Nat × OpD)):(Yw h pre).length≤pre.length:=List.length_filterMap_le _ _
section
variable {α:Type} {ea:α→List Value} {k:Nat} {e:TypeId} {base:Nat} {w:World} {v:Value} {l:List α}
theorem Wh {F:Fence} {n:Nat} {P:Program} {ops:Array Oper} {rest:List Oper} {o:Oper} {a:Act} {Q:Exit→Act→World→Prop} (hgd:o.guard=none) (s x:Operand) (t:TypeId)
  (ho:o.op=.call { callee:=.builtin .append,args:=#[s,x],argTypes:=#[t,t] })
  (i:TypeInfo) (z:Value) (bytes:Nat) (ht:P.underlying t=some (.slice e)) (hi:P.info? e=some i) (hz:i.zero=some z)
  (hsize:i.size=k) (hby:i.bytes=bytes) (hzs:z.cells.size=k) (hk0:0<k) (hk:∀ x,(ea x).length=k) (h1:∀ x,∀ u∈ea x,u.oneCell'=true)
  (hs:a.eval s=v) (hown:Own ea k e base w v l) (y:α) (nb c:Nat) (hx:a.eval x=.slice (some ⟨nb,0,none⟩) 1 c) (hnews:∀ j u,(ea y)[j]?=some u→w.cell? ⟨nb,j,none⟩=some u)
  (h63:l.length+1≤maxLen) (hbytes:(l.length+1)*bytes≤140737488355328) (hbase:base≤w.heap.size)
  (h:∀ v' w',Own ea k e base w' v' (l++[y])→Ext (fun b=>v.ownBlock=some b) w w'→wpListIn F n P ops Q rest (a.put o.dst v') w'):wpListIn F n P ops Q (o :: rest) a w:=by
 refine wpListIn_append_own w hgd s x t ho base e i z k bytes ht hi hz hsize hby hzs hk0 v l.length (l.flatMap ea) hs hown ⟨nb,0,none⟩ 1 c (ea y) hx (by rw[hk,Nat.one_mul]) (fun j u hj=>?_) (h1 y) h63 hbytes hbase (fun v' w' h2 h3 _=>h v' w' ?_ (Ext.of_grown h3))
 ·have:=hnews j u hj
  rw[show (Addr.add ⟨nb,0,none⟩ j)=⟨nb,j,none⟩ from by unfold Addr.add;split <;> simp_all]
  exact this
 ·unfold Own
  rw[List.length_append,List.flatMap_append]
  simpa using h2
end
section
variable {cap sz blk n:Nat} {lt:(Zb × Nat)→(Zb × Nat)→Prop}
abbrev Zi (p:Zb × Nat):List Value:=Zb.cells p.1
theorem Yk (x:(Zb × Nat)):(Zi x).length=28:=rfl
theorem VD (x:(Zb × Nat)):∀ u∈Zi x,u.oneCell'=true:=fun u hu=>List.all_eq_true.1 (show (Zi x).all (fun v=>v.oneCell')=true from rfl) u hu
theorem YX:XW Tryz.prog 183 28:=⟨Tryz.isAgg183,Tryz.sizeOf183⟩
theorem Vb (a b m:Nat) (f:Nat→(Zb × Nat)) (fv:Value) (w:World) (hS:Z9 Zi 28 183 sz w blk n f) (h1:a+m≤b) (h2:b+m≤n) (hcap:n≤cap) (hn:cap≤maxLen) :
  Calls Tryz.prog 153 #[.slice (some ⟨blk,0,none⟩) n cap,.int .i64 a,.int .i64 b,.int .i64 m,fv] w fun e w'=>(∃ v,e=.returned v)∧Z9 Zi 28 183 sz w' blk n (Xj f a b m)∧Ext (·=blk) w w':=by
 unfold maxLen at hn
 go_enter Tryz.func153,Tryz.ntmps153
 go_wp2_with fail
 go_loopg [10] m (fun g iv wx=>∃ i:Nat,g=m - i∧i≤m∧iv=.int .i64 i∧Z9 Zi 28 183 sz wx blk n (Xj f a b i)∧Ext (·=blk) w wx)
 case atStart=>exact ⟨0,rfl,Nat.zero_le _,rfl,by rw[Z11];exact hS,Ext.refl _ _⟩
 case round =>
  obtain ⟨i,hg,hi,rfl,hW,hx⟩:=hrel
  have HG:=Lib.hid hg
  clear hg hS
  have HX:=Lib.hid hx
  clear hx
  by_cases hlt:i<m
  ·have hp:a+i<n:=by omega
   have hq:b+i<n:=by omega
   have HW:Hid (Ym (Xj f a b i) (a+i) (b+i)=Xj f a b (i+1)):=Z00 f (by omega)
   generalize Xj f a b i=g0 at *
   have HSL:=Lib.hid hW
   clear hW
   have iap:(0:Int)≤(a:Int)+(i:Int):=by omega
   have ibp:(a:Int)+(i:Int)<(n:Int):=by omega
   have icp:((a:Int)+(i:Int)).toNat=a+i:=by omega
   have idp:IntKind.i64.wrap ((a:Int)+(i:Int))=(a:Int)+(i:Int):=IntWalk.i64_in _ (by omega)
   have iaq:(0:Int)≤(b:Int)+(i:Int):=by omega
   have ibq:(b:Int)+(i:Int)<(n:Int):=by omega
   have icq:((b:Int)+(i:Int)).toNat=b+i:=by omega
   have idq:IntKind.i64.wrap ((b:Int)+(i:Int))=(b:Int)+(i:Int):=IntWalk.i64_in _ (by omega)
   go_wp2_with fail
   refine Zf (fun W=>Z9 Zi 28 183 sz W blk n g0) (fun i=>!(i == 13 || i == 19)) (by kernel_rfl) ?_
   have hS0:Z9 Zi 28 183 sz wr.drew blk n g0:=HSL.out.drew
   have X0:Ext (·=blk) wr wr.drew:=(Ext.refl _ _).drew
   generalize wr.drew=W1 at hS0 X0 ⊢
   refine Z4 (i:=0) (d:=some 16) rfl rfl rfl (by kernel_rfl) (by kernel_rfl) (by kernel_rfl) (fun _ _ _ h=>h) (.inl ⟨by rfl,fun W hW=>by go_simp;rfl⟩) ?_
   try simp only[Ja]
   refine Z4 (i:=1) (d:=some 17) rfl rfl rfl (by kernel_rfl) (by kernel_rfl) (by kernel_rfl) (fun _ _ _ h=>h) (.inl ⟨by rfl,fun W hW=>by go_simp;rfl⟩) ?_
   try simp only[Ja]
   refine Z4 (i:=2) (d:=some 18) rfl rfl rfl (by kernel_rfl) (by kernel_rfl) (by kernel_rfl) (fun _ _ _ h=>h) (.inl ⟨by rfl,fun W hW=>by go_simp;rfl⟩) ?_
   try simp only[Ja]
   refine Z4 (i:=3) (d:=some 19) rfl rfl rfl (by kernel_rfl) (by kernel_rfl) (by kernel_rfl) (fun _ _ _ h=>h) (.inl ⟨by rfl,fun W hW=>by go_simp;rfl⟩) ?_
   try simp only[Ja]
   refine Z4 (i:=4) (d:=some 20) rfl rfl rfl (by kernel_rfl) (by kernel_rfl) (by kernel_rfl) (fun _ _ _ h=>h) (.inl ⟨by rfl,fun W hW=>by go_simp;rfl⟩) ?_
   try simp only[Ja]
   refine Z4 (i:=5) (d:=some 21) rfl rfl rfl (by kernel_rfl) (by kernel_rfl) (by kernel_rfl) (fun _ _ _ h=>h) (.inl ⟨by rfl,fun W hW=>by go_simp;rfl⟩) ?_
   try simp only[Ja]
   refine Z4 (i:=6) (d:=some 22) rfl rfl rfl (by kernel_rfl) (by kernel_rfl) (by kernel_rfl) (fun _ _ _ h=>h) (.inl ⟨by rfl,fun W hW=>by go_simp;rfl⟩) ?_
   try simp only[Ja]
   refine Z4 (i:=7) (d:=some 23) rfl rfl rfl (by kernel_rfl) (by kernel_rfl) (by kernel_rfl) (fun _ _ _ h=>h) (.inl ⟨by rfl,fun W hW=>by go_simp;rfl⟩) ?_
   try simp only[Ja]
   refine Z4 (i:=8) (d:=some 24) rfl rfl rfl (by kernel_rfl) (by kernel_rfl) (by kernel_rfl) (fun _ _ _ h=>h) (.inl ⟨by rfl,fun W hW=>by go_simp;rfl⟩) ?_
   try simp only[Ja]
   refine Z4 (i:=9) (d:=some 25) rfl rfl rfl (by kernel_rfl) (by kernel_rfl) (by kernel_rfl) (fun _ _ _ h=>h) (.inl ⟨by rfl,fun W hW=>by go_simp;rfl⟩) ?_
   try simp only[Ja]
   refine Z4 (i:=10) (d:=some 26) rfl rfl rfl (by kernel_rfl) (by kernel_rfl) (by kernel_rfl) (fun _ _ _ h=>h) (.inl ⟨by rfl,fun W hW=>by go_simp;rfl⟩) ?_
   try simp only[Ja]
   refine Z4 (i:=11) (d:=some 27) rfl rfl rfl (by kernel_rfl) (by kernel_rfl) (by kernel_rfl) (fun _ _ _ h=>h) (.inl ⟨by rfl,fun W hW=>by go_simp;rfl⟩) ?_
   try simp only[Ja]
   refine Z4 (i:=12) (d:=some 28) rfl rfl rfl (by kernel_rfl) (by kernel_rfl) (by kernel_rfl) (fun _ _ _ h=>h) (.inl ⟨by rfl,fun W hW=>by go_simp;rfl⟩) ?_
   try simp only[Ja]
   refine Z4 (i:=14) (d:=some 30) rfl rfl rfl (by kernel_rfl) (by kernel_rfl) (by kernel_rfl) (fun _ _ _ h=>h) (.inl ⟨by rfl,fun W hW=>by go_simp;rfl⟩) ?_
   try simp only[Ja]
   refine Z4 (i:=15) (d:=some 31) rfl rfl rfl (by kernel_rfl) (by kernel_rfl) (by kernel_rfl) (fun _ _ _ h=>h) (.inl ⟨by rfl,fun W hW=>by go_simp;rfl⟩) ?_
   try simp only[Ja]
   refine Z4 (i:=16) (d:=some 32) rfl rfl rfl (by kernel_rfl) (by kernel_rfl) (by kernel_rfl) (fun _ _ _ h=>h) (.inl ⟨by rfl,fun W hW=>by go_simp;rfl⟩) ?_
   try simp only[Ja]
   refine Z4 (i:=17) (d:=some 33) rfl rfl rfl (by kernel_rfl) (by kernel_rfl) (by kernel_rfl) (fun _ _ _ h=>h) (.inl ⟨by rfl,fun W hW=>by go_simp;rfl⟩) ?_
   try simp only[Ja]
   refine Z4 (i:=18) (d:=some 34) rfl rfl rfl (by kernel_rfl) (by kernel_rfl) (by kernel_rfl) (fun _ _ _ h=>h) (.inl ⟨by rfl,fun W hW=>by go_simp;rfl⟩) ?_
   try simp only[Ja]
   refine JR 13 29 (.agg (Zi (g0 (b+i))).toArray) rfl rfl hS0 (fun W hW=>ZT rfl rfl (Z9.load hW Yk YX hq)) ?_
   try simp only[Ja]
   refine JR 19 35 (.agg (Zi (g0 (a+i))).toArray) rfl rfl hS0 (fun W hW=>ZT rfl rfl (Z9.load hW Yk YX hp)) ?_
   try simp only[Ja]
   refine Z4 (i:=20) (d:=some 36) rfl rfl rfl (by kernel_rfl) (by kernel_rfl) (by kernel_rfl) (fun _ _ _ h=>h) (.inl ⟨by rfl,fun W hW=>by go_simp;rfl⟩) ?_
   try simp only[Ja]
   obtain ⟨W2,st2,s2,e2⟩:=Z9.store hS0 Yk VD YX hp (g0 (b+i))
   refine Zh (i:=21) (d:=none) (by kernel_rfl) rfl rfl (by rfl) (YW rfl rfl rfl st2) (fun h=>by cases h) ?_
   try simp only[Ja]
   refine Z4 (i:=22) (d:=some 37) rfl rfl rfl (by kernel_rfl) (by kernel_rfl) (by kernel_rfl) (fun _ _ _ h=>h) (.inl ⟨by rfl,fun W hW=>by go_simp;rfl⟩) ?_
   try simp only[Ja]
   obtain ⟨W3,st3,s3,e3⟩:=Z9.store s2 Yk VD YX hq (g0 (a+i))
   refine Zh (i:=23) (d:=none) (by kernel_rfl) rfl rfl (by rfl) (YW rfl rfl rfl st3) (fun h=>by cases h) ?_
   try simp only[Ja]
   refine Zd (by kernel_rfl) ?_ _
   have HSW:Hid (Z9 Zi 28 183 sz W3 blk n (Ym g0 (a+i) (b+i))∧Ext (·=blk) wr W3):=Lib.hid ⟨by rw[VA];exact s3,(X0.trans e2).trans e3⟩
   clear hS0 X0 st2 s2 e2 st3 s3 e3
   clear HSL
   go_wp2_with fail
   go_roundg (m - (i+1))
   case measure=>rw[HG.out];omega
   case rel=>exact ⟨i+1,rfl,hlt,by go_num,by rw[←HW.out];exact HSW.out.1,HX.out.trans HSW.out.2⟩
  ·obtain rfl:i=m:=by omega
   go_wp2_with fail
   go_end0
   exact ⟨⟨_,rfl⟩,hW,HX.out⟩
theorem Z0W (a m b:Nat) (f:Nat→(Zb × Nat)) (fv:Value) (w:World) (hS:Z9 Zi 28 183 sz w blk n f) (h1:a<m) (h2:m<b) (h3:b≤n) (hcap:n≤cap) (hn:cap≤maxLen) :
  Calls Tryz.prog 148 #[.slice (some ⟨blk,0,none⟩) n cap,.int .i64 a,.int .i64 m,.int .i64 b,fv] w fun e w'=>(∃ v,e=.returned v)∧Z9 Zi 28 183 sz w' blk n (Yr f a m b)∧Ext (·=blk) w w':=by
 have hn0:=hn
 unfold maxLen at hn
 have HN:=Lib.hid hn0
 clear hn0
 go_enter Tryz.func148,Tryz.ntmps148
 go_wp2_with fail
 go_loopg [10,11] (b - a) (fun g iv jv wx=>∃ (i j:Nat) (f':Nat→(Zb × Nat)),g=i+j∧0<i∧i≤m - a∧0<j∧j≤b - m∧iv=.int .i64 i∧jv=.int .i64 j∧Z9 Zi 28 183 sz wx blk n f'∧Hid (Yr f' (m - i) m (m+j)=Yr f a m b)∧Ext (·=blk) w wx)
 case atStart =>
  refine ⟨m - a,b - m,f,by omega,by omega,Nat.le_refl _,by omega,Nat.le_refl _,by go_num,by go_num,hS,Lib.hid ?_,Ext.refl _ _⟩
  rw[show m - (m - a)=a by omega,show m+(b - m)=b by omega]
 case round =>
  obtain ⟨i,j,f',hg,hi0,hi,hj0,hj,rfl,rfl,hW,hr,hx⟩:=hrel
  have HG:=Lib.hid hg
  clear hg hS
  have HX:=Lib.hid hx
  clear hx
  have ei:((m:Int) - (i:Int))=((m - i:Nat):Int):=by omega
  by_cases hij:i=j
  ·obtain rfl:=hij
   go_wp2_with fail
   (with_reducible refine (Vb (m - i) m i f' _ _ hW (by omega) (by omega) hcap HN.out).mono ?_)
   rintro e w5 ⟨⟨v5,rfl⟩,s5,x5⟩
   go_wp2_with fail
   go_end0
   rw[Z3E f' (by omega),hr.out] at s5
   exact ⟨⟨_,rfl⟩,s5,HX.out.trans x5⟩
  ·by_cases hgt:j<i
   ·have ej:((i:Int) - (j:Int))=((i - j:Nat):Int):=by omega
    go_wp2_with fail
    (with_reducible refine (Vb (m - i) m j f' _ _ hW (by omega) (by omega) hcap HN.out).mono ?_)
    rintro e w5 ⟨⟨v5,rfl⟩,s5,x5⟩
    go_wp2_with fail
    go_roundg (i - j+j)
    case measure=>rw[HG.out];omega
    case rel=>exact ⟨i - j,j,_,rfl,by omega,by omega,hj0,hj,by go_num,rfl,s5,Jh ((Z3M f' (by omega) hgt).trans hr.out),HX.out.trans x5⟩
   ·have ej:((j:Int) - (i:Int))=((j - i:Nat):Int):=by omega
    have ek:((m:Int)+(j:Int) - (i:Int))=((m+j - i:Nat):Int):=by omega
    go_wp2_with fail
    (with_reducible refine (Vb (m - i) (m+j - i) i f' _ _ hW (by omega) (by omega) hcap HN.out).mono ?_)
    rintro e w5 ⟨⟨v5,rfl⟩,s5,x5⟩
    go_wp2_with fail
    go_roundg (i+(j - i))
    case measure=>rw[HG.out];omega
    case rel=>exact ⟨i,j - i,_,rfl,hi0,hi,by omega,by omega,rfl,by go_num,s5,Jh ((Z3H f' (by omega) (by omega)).trans hr.out),HX.out.trans x5⟩
end
section
variable {cap sz blk n:Nat} {lt:(Zb × Nat)→(Zb × Nat)→Prop}
theorem VW (v:Value) (a:Nat) (fv:Value) (w:World) (hn:a<9223372036854775807) :
  Calls Tryz.prog 142 #[v,.int .i64 a,.int .i64 a,fv] w fun e w'=>(∃ v,e=.returned v)∧w=w':=by
 go_enter Tryz.func142,Tryz.ntmps142
 go_wp2_with fail
 go_loopg [8] 1 (fun g iv wx=>iv=.int .i64 (a+1:Nat)∧w=wx)
 case atStart=>exact ⟨by go_num,rfl⟩
 case round =>
  obtain ⟨rfl,rfl⟩:=hrel
  go_wp2_with fail
  go_end0
  exact ⟨⟨_,rfl⟩,rfl⟩
theorem R7 (a b:Nat) (f:Nat→(Zb × Nat)) (w:World) (hS:Z9 Zi 28 183 sz w blk n f) (R:Wd lt Prod.snd (fun x y:(Zb × Nat)=>Y3 x.1 y.1)) (hab:a<b) (hbn:b≤n) (hcap:n≤cap) (hn:cap≤maxLen) (hp:∀ p q,a≤p→p<q→q<b→(f p).2<(f q).2) :
  Calls Tryz.prog 142 #[.slice (some ⟨blk,0,none⟩) n cap,.int .i64 a,.int .i64 b,.func (.func 98) #[] #[]] w fun e w'=>(∃ v,e=.returned v)∧Hid (∃ g,Z9 Zi 28 183 sz w' blk n g∧Zt a b f g∧ZS lt a b g)∧Ext (·=blk) w w':=by
 unfold maxLen at hn
 have HR:=Lib.hid R
 have HP:=Lib.hid hp
 clear R hp
 go_enter Tryz.func142,Tryz.ntmps142
 go_wp2_with fail
 go_loopg [8] (b - (a+1)) (fun g0 iv wx=>∃ (i:Nat) (f1:Nat→(Zb × Nat)),g0=b - i∧a+1≤i∧i≤b∧iv=.int .i64 i∧Z9 Zi 28 183 sz wx blk n f1∧Hid (Zt a i f f1)∧Hid (ZS lt a i f1)∧Ext (·=blk) w wx)
 case atStart=>exact ⟨a+1,f,by omega,Nat.le_refl _,hab,by go_num,hS,Jh (Zt.refl _ _ _),Jh (fun i j h1 h2 h3=>by omega),Ext.refl _ _⟩
 case round =>
  obtain ⟨i,f1,hg,hi1,hi2,rfl,hW,hpm,hso,hx⟩:=hrel
  have HG:=Lib.hid hg
  clear hg hS
  have HX:=Lib.hid hx
  clear hx
  by_cases hlt:i<b
  ·have hin:i<n:=by omega
   have hst:Hid (Wl lt Prod.snd a i i f1 f1):=Jh (Wl.start (by omega) hso.out (fun p h1 h2=>by
    obtain ⟨q,k1,k2,k3⟩:=hpm.out.from h1 h2
    rw[k3,hpm.out.out (.inr (Nat.le_refl i))]
    exact HP.out q i k1 k2 hlt))
   obtain ⟨wo,hwo⟩:∃ wo:World,wo=wr:=⟨_,rfl⟩
   subst hwo
   go_wp2_with fail
   go_loopg [9] i (fun g0 jv wx=>∃ (j:Nat) (f2:Nat→(Zb × Nat)),g0=j∧a≤j∧j≤i∧jv=.int .i64 j∧Z9 Zi 28 183 sz wx blk n f2∧Hid (Wl lt Prod.snd a i j f1 f2)∧Ext (·=blk) w wx)
   case atStart=>exact ⟨i,f1,rfl,by omega,Nat.le_refl _,rfl,hW,hst,HX.out⟩
   case round =>
    obtain ⟨j,f2,hg,hj1,hj2,rfl,hW,hv,hx⟩:=hrel
    have HG2:=Lib.hid hg
    clear hg hst
    have HX2:=Lib.hid hx
    clear hx
    by_cases haj:a<j
    ·obtain ⟨k,hk⟩:∃ k,k=j - 1:=⟨_,rfl⟩
     have hkj:j=k+1:=by omega
     subst hkj
     clear hk
     have hjn:k+1<n:=by omega
     have hkn:k<n:=by omega
     have hak:a≤k:=by omega
     obtain ⟨x,hx⟩:∃ x,x=f2 (k+1):=⟨_,rfl⟩
     have HRx:=Lib.hid hx
     obtain ⟨y,hy⟩:∃ y,y=f2 k:=⟨_,rfl⟩
     have HRy:=Lib.hid hy
     have gd1:decide (a<k+1)=true:=by rw[decide_eq_true_eq];omega
     have gd2:decide ((a:Int)<(k:Int)+1)=true:=by rw[decide_eq_true_eq];omega
     have ib1:(0:Int)≤(k:Int)+1:=by omega
     have ib2:(k:Int)+1<(n:Int):=by omega
     have ib3:(0:Int)≤(k:Int):=by omega
     have ib4:(k:Int)<(n:Int):=by omega
     have iw1:IntKind.i64.wrap ((k:Int)+1 - 1)=(k:Int):=by rw[show (k:Int)+1 - 1=(k:Int) by omega];exact IntWalk.i64_in _ (by omega)
     have iw3:IntKind.i64.wrap (k:Int)=(k:Int):=IntWalk.i64_in _ (by omega)
     have iw2:((k:Int)+1).toNat=k+1:=by omega
     have HXX:=Lib.hid hx
     have HYY:=Lib.hid hy
     clear hx hy
     go_wp2_with fail
     have iap:(0:Int)≤(k:Int)+1:=by omega
     have ibp:(k:Int)+1<(n:Int):=by omega
     have icp:((k:Int)+1).toNat=k+1:=by omega
     have idp:IntKind.i64.wrap ((k:Int)+1)=(k:Int)+1:=IntWalk.i64_in _ (by omega)
     have iaq:(0:Int)≤(k:Int):=by omega
     have ibq:(k:Int)<(n:Int):=by omega
     have icq:((k:Int)).toNat=k:=by omega
     have idq:IntKind.i64.wrap ((k:Int))=(k:Int):=IntWalk.i64_in _ (by omega)
     have hS0:(fun W=>Z9 Zi 28 183 sz W blk n f2) wr.drew:=hW.drew
     have b00:Below wr.heap.size wr wr.drew:=(Below.refl _ _).drew
     refine wp_region_held_drew (S:=(fun W=>Z9 Zi 28 183 sz W blk n f2)) (by kernel_rfl) hS0 (fun _=>?_)
     generalize wr.drew=W1 at hS0 b00 ⊢
     refine Za (i:=0) (d:=some 18) rfl rfl (by kernel_rfl) (by kernel_rfl) (by kernel_rfl) (fun _ _ _ h=>h) (.inl ⟨by rfl,fun W hW=>by go_simp;rfl⟩) hS0 ?_
     try simp only[Ja]
     refine Za (i:=1) (d:=some 19) rfl rfl (by kernel_rfl) (by kernel_rfl) (by kernel_rfl) (fun _ _ _ h=>h) (.inl ⟨by rfl,fun W hW=>by go_simp;rfl⟩) hS0 ?_
     try simp only[Ja]
     refine Za (i:=2) (d:=some 20) rfl rfl (by kernel_rfl) (by kernel_rfl) (by kernel_rfl) (fun _ _ _ h=>h) (.inl ⟨by rfl,fun W hW=>by go_simp;rfl⟩) hS0 ?_
     try simp only[Ja]
     refine Za (i:=3) (d:=some 21) rfl rfl (by kernel_rfl) (by kernel_rfl) (by kernel_rfl) (fun _ _ _ h=>h) (.inl ⟨by rfl,fun W hW=>by go_simp;rfl⟩) hS0 ?_
     try simp only[Ja]
     refine Za (i:=4) (d:=some 22) rfl rfl (by kernel_rfl) (by kernel_rfl) (by kernel_rfl) (fun _ _ _ h=>h) (.inl ⟨by rfl,fun W hW=>by go_simp;rfl⟩) hS0 ?_
     try simp only[Ja]
     refine Za (i:=5) (d:=some 23) rfl rfl (by kernel_rfl) (by kernel_rfl) (by kernel_rfl) (fun _ _ _ h=>h) (.inl ⟨by rfl,fun W hW=>by go_simp;rfl⟩) hS0 ?_
     try simp only[Ja]
     refine Za (i:=6) (d:=some 24) rfl rfl (by kernel_rfl) (by kernel_rfl) (by kernel_rfl) (fun _ _ _ h=>h) (.inl ⟨by rfl,fun W hW=>by go_simp;rfl⟩) hS0 ?_
     try simp only[Ja]
     refine Za (i:=7) (d:=some 25) rfl rfl (by kernel_rfl) (by kernel_rfl) (by kernel_rfl) (fun _ _ _ h=>h) (.inl ⟨by rfl,fun W hW=>by go_simp;rfl⟩) hS0 ?_
     try simp only[Ja]
     refine Za (i:=8) (d:=some 26) (v:=.agg (Zi x).toArray) rfl rfl (by kernel_rfl) (by kernel_rfl) (by kernel_rfl) (fun _ _ _ h=>h) (.inl ⟨by rfl,fun W hW=>ZT rfl rfl (by rw[HRx.out];exact Z9.load hW Yk YX hjn)⟩) hS0 ?_
     try simp only[Ja]
     refine Za (i:=9) (d:=some 27) rfl rfl (by kernel_rfl) (by kernel_rfl) (by kernel_rfl) (fun _ _ _ h=>h) (.inl ⟨by rfl,fun W hW=>by go_simp;rfl⟩) hS0 ?_
     try simp only[Ja]
     refine Za (i:=10) (d:=some 28) rfl rfl (by kernel_rfl) (by kernel_rfl) (by kernel_rfl) (fun _ _ _ h=>h) (.inl ⟨by rfl,fun W hW=>by go_simp;rfl⟩) hS0 ?_
     try simp only[Ja]
     refine Za (i:=11) (d:=some 29) rfl rfl (by kernel_rfl) (by kernel_rfl) (by kernel_rfl) (fun _ _ _ h=>h) (.inl ⟨by rfl,fun W hW=>by go_simp;rfl⟩) hS0 ?_
     try simp only[Ja]
     refine Za (i:=12) (d:=some 30) rfl rfl (by kernel_rfl) (by kernel_rfl) (by kernel_rfl) (fun _ _ _ h=>h) (.inl ⟨by rfl,fun W hW=>by go_simp;rfl⟩) hS0 ?_
     try simp only[Ja]
     refine Za (i:=13) (d:=some 31) (v:=.agg (Zi y).toArray) rfl rfl (by kernel_rfl) (by kernel_rfl) (by kernel_rfl) (fun _ _ _ h=>h) (.inl ⟨by rfl,fun W hW=>ZT rfl rfl (by rw[HRy.out];exact Z9.load hW Yk YX hkn)⟩) hS0 ?_
     try simp only[Ja]
     refine VK (i:=14) (d:=some 32) (by kernel_rfl) rfl rfl (by rfl) (by go_simp;first|rfl|exact ⟨rfl,rfl⟩|exact ⟨⟨rfl,rfl⟩,rfl⟩) ?_
     (refine (Vg x.1 y.1 _).mono ?_)
     rintro e w5 ⟨rfl,b5⟩
     have hS5:(fun W=>Z9 Zi 28 183 sz W blk n f2) w5:=Z9.below hS0 b5
     replace b5:=b00.trans (b5.mono b00.size)
     refine ⟨_,rfl,hS5,?_⟩
     try simp only[Ja]
     clear hS0 b00
     refine Za (i:=15) (d:=some 33) rfl rfl (by kernel_rfl) (by kernel_rfl) (by kernel_rfl) (fun _ _ _ h=>h) (.inl ⟨by rfl,fun W hW=>by go_simp;rfl⟩) hS5 ?_
     try simp only[Ja]
     refine Za (i:=16) (d:=some 34) rfl rfl (by kernel_rfl) (by kernel_rfl) (by kernel_rfl) (fun _ _ _ h=>h) (.inl ⟨by rfl,fun W hW=>by go_simp;rfl⟩) hS5 ?_
     try simp only[Ja]
     refine wpAnyH_done (by kernel_rfl) ?_ _
     clear hS5 HRx HRy
     have HS5:=Jh (hW.below b5)
     have HX5:=Jh (HX2.out.then_below b5)
     clear  hW b5
     have hcc:Y3 x.1 y.1<0↔lt x y:=by rw[HXX.out,HYY.out];exact HR.out.says _ _ (hv.out.later k hak (by omega) (by omega))
     have HCC:=Lib.hid hcc
     clear hcc
     by_cases hc:Y3 x.1 y.1<0
     ·have hd:=hv.out.down hak (by rw[←HXX.out,←HYY.out];exact HCC.out.1 hc)
      have HD:=Lib.hid hd
      clear hd
      have hW:=HS5.out
      have hx:=HXX.out
      have hy:=HYY.out
      clear HXX HYY HCC
      have HSL:=Lib.hid hW
      clear hW hx hy HS5
      have iap:(0:Int)≤(k:Int)+1:=by omega
      have ibp:(k:Int)+1<(n:Int):=by omega
      have icp:((k:Int)+1).toNat=k+1:=by omega
      have idp:IntKind.i64.wrap ((k:Int)+1)=(k:Int)+1:=IntWalk.i64_in _ (by omega)
      have iaq:(0:Int)≤(k:Int):=by omega
      have ibq:(k:Int)<(n:Int):=by omega
      have icq:((k:Int)).toNat=k:=by omega
      have idq:IntKind.i64.wrap ((k:Int))=(k:Int):=IntWalk.i64_in _ (by omega)
      go_wp2_with fail
      refine Zf (fun W=>Z9 Zi 28 183 sz W blk n f2) (fun i=>!(i == 9 || i == 13)) (by kernel_rfl) ?_
      have hS0:Z9 Zi 28 183 sz w5.drew blk n f2:=HSL.out.drew
      have X0:Ext (·=blk) w5 w5.drew:=(Ext.refl _ _).drew
      generalize w5.drew=W1 at hS0 X0 ⊢
      refine Z4 (i:=0) (d:=some 37) rfl rfl rfl (by kernel_rfl) (by kernel_rfl) (by kernel_rfl) (fun _ _ _ h=>h) (.inl ⟨by rfl,fun W hW=>by go_simp;rfl⟩) ?_
      try simp only[Ja]
      refine Z4 (i:=1) (d:=some 38) rfl rfl rfl (by kernel_rfl) (by kernel_rfl) (by kernel_rfl) (fun _ _ _ h=>h) (.inl ⟨by rfl,fun W hW=>by go_simp;rfl⟩) ?_
      try simp only[Ja]
      refine Z4 (i:=2) (d:=some 39) rfl rfl rfl (by kernel_rfl) (by kernel_rfl) (by kernel_rfl) (fun _ _ _ h=>h) (.inl ⟨by rfl,fun W hW=>by go_simp;rfl⟩) ?_
      try simp only[Ja]
      refine Z4 (i:=3) (d:=some 40) rfl rfl rfl (by kernel_rfl) (by kernel_rfl) (by kernel_rfl) (fun _ _ _ h=>h) (.inl ⟨by rfl,fun W hW=>by go_simp;rfl⟩) ?_
      try simp only[Ja]
      refine Z4 (i:=4) (d:=some 41) rfl rfl rfl (by kernel_rfl) (by kernel_rfl) (by kernel_rfl) (fun _ _ _ h=>h) (.inl ⟨by rfl,fun W hW=>by go_simp;rfl⟩) ?_
      try simp only[Ja]
      refine Z4 (i:=5) (d:=some 42) rfl rfl rfl (by kernel_rfl) (by kernel_rfl) (by kernel_rfl) (fun _ _ _ h=>h) (.inl ⟨by rfl,fun W hW=>by go_simp;rfl⟩) ?_
      try simp only[Ja]
      refine Z4 (i:=6) (d:=some 43) rfl rfl rfl (by kernel_rfl) (by kernel_rfl) (by kernel_rfl) (fun _ _ _ h=>h) (.inl ⟨by rfl,fun W hW=>by go_simp;rfl⟩) ?_
      try simp only[Ja]
      refine Z4 (i:=7) (d:=some 44) rfl rfl rfl (by kernel_rfl) (by kernel_rfl) (by kernel_rfl) (fun _ _ _ h=>h) (.inl ⟨by rfl,fun W hW=>by go_simp;rfl⟩) ?_
      try simp only[Ja]
      refine Z4 (i:=8) (d:=some 45) rfl rfl rfl (by kernel_rfl) (by kernel_rfl) (by kernel_rfl) (fun _ _ _ h=>h) (.inl ⟨by rfl,fun W hW=>by go_simp;rfl⟩) ?_
      try simp only[Ja]
      refine Z4 (i:=10) (d:=some 47) rfl rfl rfl (by kernel_rfl) (by kernel_rfl) (by kernel_rfl) (fun _ _ _ h=>h) (.inl ⟨by rfl,fun W hW=>by go_simp;rfl⟩) ?_
      try simp only[Ja]
      refine Z4 (i:=11) (d:=some 48) rfl rfl rfl (by kernel_rfl) (by kernel_rfl) (by kernel_rfl) (fun _ _ _ h=>h) (.inl ⟨by rfl,fun W hW=>by go_simp;rfl⟩) ?_
      try simp only[Ja]
      refine Z4 (i:=12) (d:=some 49) rfl rfl rfl (by kernel_rfl) (by kernel_rfl) (by kernel_rfl) (fun _ _ _ h=>h) (.inl ⟨by rfl,fun W hW=>by go_simp;rfl⟩) ?_
      try simp only[Ja]
      refine JR 9 46 (.agg (Zi (f2 k)).toArray) rfl rfl hS0 (fun W hW=>ZT rfl rfl (Z9.load hW Yk YX hkn)) ?_
      try simp only[Ja]
      refine JR 13 50 (.agg (Zi (f2 (k+1))).toArray) rfl rfl hS0 (fun W hW=>ZT rfl rfl (Z9.load hW Yk YX hjn)) ?_
      try simp only[Ja]
      refine Z4 (i:=14) (d:=some 51) rfl rfl rfl (by kernel_rfl) (by kernel_rfl) (by kernel_rfl) (fun _ _ _ h=>h) (.inl ⟨by rfl,fun W hW=>by go_simp;rfl⟩) ?_
      try simp only[Ja]
      obtain ⟨W2,st2,s2,e2⟩:=Z9.store hS0 Yk VD YX hjn (f2 k)
      refine Zh (i:=15) (d:=none) (by kernel_rfl) rfl rfl (by rfl) (YW rfl rfl rfl st2) (fun h=>by cases h) ?_
      try simp only[Ja]
      refine Z4 (i:=16) (d:=some 52) rfl rfl rfl (by kernel_rfl) (by kernel_rfl) (by kernel_rfl) (fun _ _ _ h=>h) (.inl ⟨by rfl,fun W hW=>by go_simp;rfl⟩) ?_
      try simp only[Ja]
      obtain ⟨W3,st3,s3,e3⟩:=Z9.store s2 Yk VD YX hkn (f2 (k+1))
      refine Zh (i:=17) (d:=none) (by kernel_rfl) rfl rfl (by rfl) (YW rfl rfl rfl st3) (fun h=>by cases h) ?_
      try simp only[Ja]
      refine Zd (by kernel_rfl) ?_ _
      have HSW:Hid (Z9 Zi 28 183 sz W3 blk n (Ym f2 (k+1) k)∧Ext (·=blk) w5 W3):=Lib.hid ⟨by rw[VA];exact s3,(X0.trans e2).trans e3⟩
      clear hS0 X0 st2 s2 e2 st3 s3 e3
      clear HSL
      go_wp2_with fail
      go_roundg k
      case measure=>rw[HG2.out];omega
      case rel=>exact ⟨k,_,rfl,hak,by omega,by go_num,HSW.out.1,HD,HX5.out.trans HSW.out.2⟩
     ·have hq:¬ lt (f2 (k+1)) (f2 k):=by rw[←HXX.out,←HYY.out];exact fun h=>hc (HCC.out.2 h)
      have HD:=Jh (hv.out.done HR.out (.inr hq))
      clear HXX HYY HCC hq
      go_wp2_with fail
      go_roundg (b - (i+1))
      case measure=>rw[HG.out];omega
      case rel=>exact ⟨i+1,f2,rfl,by omega,hlt,by go_num,HS5.out,Jh ((hpm.out.mono (Nat.le_refl _) (by omega)).trans hv.out.perm),HD,HX5.out⟩
    ·obtain rfl:j=a:=by omega
     have HD:=Jh (hv.out.done HR.out (.inl rfl))
     go_wp2_with fail
     go_quiet (fail)
     go_wp2_with fail
     go_roundg (b - (i+1))
     case measure=>rw[HG.out];omega
     case rel=>exact ⟨i+1,f2,rfl,by omega,hlt,by go_num,hW.below (below_drewN (Below.refl _ _) _),Jh ((hpm.out.mono (Nat.le_refl _) (by omega)).trans hv.out.perm),HD,HX2.out.then_below (below_drewN (Below.refl _ _) _)⟩
  ·obtain rfl:i=b:=by omega
   go_wp2_with fail
   go_end0
   exact ⟨⟨_,rfl⟩,Lib.hid ⟨f1,hW,hpm.out,hso.out⟩,HX.out⟩
end
end Go.Proofs.YtlgipkemoldckaaGreatDoor
