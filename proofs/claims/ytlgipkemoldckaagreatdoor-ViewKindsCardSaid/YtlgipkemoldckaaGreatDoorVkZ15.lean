/- ViewKinds, part 15 of what the proof leans on (made short by a program). -/
import Derived.Test.YtlgipkemoldckaaGreatDoorVkZ14
set_option linter.unusedSimpArgs false
set_option linter.unusedVariables false
set_option linter.unusedSectionVars false
set_option maxRecDepth 20000
set_option maxHeartbeats 30000000
namespace Go.Proofs.YtlgipkemoldckaaGreatDoor
open Go.RowKit
theorem SI:(Tryz.prog.info? 109).map (fun i=>(i.zero,i.size,i.bytes))=some (some (.agg #[.int .i64 0,.int .i64 0,.int .i64 0,.int .i64 0]),4,32):=by kernel_rfl
theorem SM {α:Type} {ea:α→List Value} {k:Nat} {e:TypeId} {base:Nat} (w:World) (hk:∀ x,(ea x).length=k) (hb:base≤w.heap.size) (x:α):Own ea k e base (w.alloc (.cells (ea x).toArray e)) (.slice (some ⟨w.heap.size,0,none⟩) 1 1) [x]:=by
 refine ⟨by simp[hk],.inr ⟨w.heap.size,1,(ea x).toArray,rfl,hb,World.alloc_heap_new w _,Nat.le_refl _,by decide,by simp[hk],?_⟩⟩
 simp[hk,List.take_of_length_le]
def YE (l:List El) (n:Nat):List Spn:=(cur l n).1++[⟨(cur l n).2.1,(cur l n).2.2,n⟩]
theorem Z06 (l:List El) (n:Nat):(YE l n).length=(cur l n).1.length+1:=by simp[YE]
theorem Z16 {l:List El} {n:Nat} {x:El} (hx:l[n]?=some x) (hb:Yg x=true):YE l (n+1)=YE l n++[⟨x.id,n+1,n+1⟩]:=by
 unfold YE;rw[T1 hx hb]
theorem Z03 {l:List El} {n:Nat} {x:El} (hx:l[n]?=some x) (hb:Yg x=false):YE l (n+1)=(YE l n).set (cur l n).1.length ⟨(cur l n).2.1,(cur l n).2.2,n+1⟩:=by
 unfold YE;rw[UZ hx hb];simp[List.set_append_right]
theorem TG (v:Value) (l:List El) (w:World) (hv:Z5 El.cells 4 w v l) (hln:l.length≤1000) :
  Calls Tryz.prog 55 #[v] w fun e w'=>∃ u,e=.returned u∧Own Spn.cells 4 109 w.heap.size w' u (ZY l)∧Below w.heap.size w w':=by
 obtain ⟨a,cap,rfl,hcap,hmax,hcs⟩:=hv
 unfold maxLen at hmax
 obtain ⟨i0,hi,hz0,hz1',hz2⟩:=info_parts SI
 have h00:=SM (e:=109) w Spn.len (Nat.le_refl _) (⟨⟨0,0⟩,0,0⟩:Spn)
 have hb0:Below w.heap.size w (w.alloc (.cells #[.int .i64 0,.int .i64 0,.int .i64 0,.int .i64 0] 109)):=(Below.refl _ _).alloc (Nat.le_refl _) _
 have hs0:(w.alloc (.cells #[.int .i64 0,.int .i64 0,.int .i64 0,.int .i64 0] 109)).heap.size=w.heap.size+1:=by simp
 replace h00:Own Spn.cells 4 109 w.heap.size (w.alloc (.cells #[.int .i64 0,.int .i64 0,.int .i64 0,.int .i64 0] 109)) (.slice (some ⟨w.heap.size,0,none⟩) 1 1) (YE l 0):=h00
 have HS:=Jh (show Z5 El.cells 4 w (.slice a l.length cap) l from ⟨a,cap,rfl,hcap,by unfold maxLen;omega,hcs⟩)
 clear hcs
 go_enter Tryz.func55,Tryz.ntmps55
 go_upto_region 2 with fail
 generalize w.alloc (.cells #[.int .i64 0,.int .i64 0,.int .i64 0,.int .i64 0] 109)=w1 at *
 have H0:=Lib.hid h00
 have HB0:=Lib.hid hb0
 clear h00 hb0
 go_wp2_with fail
 go_loopg [4,3] l.length (fun g i ov wx=>∃ (k g0 cp:Nat),g=l.length - k∧k≤l.length∧i=.int .i64 k∧ov=.slice (some ⟨g0,0,none⟩) ((cur l k).1.length+1) cp∧Hid (Own Spn.cells 4 109 w.heap.size wx (.slice (some ⟨g0,0,none⟩) ((cur l k).1.length+1) cp) (YE l k))∧Hid (Below w.heap.size w wx))
 case atStart=>exact ⟨0,w.heap.size,1,rfl,Nat.zero_le _,rfl,rfl,H0,HB0⟩
 case round =>
  obtain ⟨k,g0,cp,hg,hk,rfl,rfl,HO,HB⟩:=hrel
  have HG:=Lib.hid hg
  clear hg
  by_cases hlt:k<l.length
  ·obtain ⟨x,hx⟩:∃ x,l[k]?=some x:=⟨_,List.getElem?_eq_getElem hlt⟩
   obtain ⟨b,o,c1,e1,hc⟩:∃ b o c1,Value.slice a l.length cap=.slice (some ⟨b,o,none⟩) l.length c1∧∀ i x,l[i]?=some x→∀ j u,(El.cells x)[j]?=some u→wr.cell? ⟨b,o+i*4+j,none⟩=some u:=by
    obtain ⟨a',c',e1,_,_,h4⟩:=HS.out.below HB.out
    obtain ⟨b,o,e2,h5⟩:=h4 (by intro e;rw[e] at hlt;simp at hlt)
    exact ⟨b,o,c',by rw[e1,e2],h5⟩
   cases e1
   have x0:wr.cell? ⟨b,o+k*4,none⟩=some (.int .i64 x.id.n):=hc k x hx 0 _ rfl
   have x1:wr.cell? ⟨b,o+k*4+1,none⟩=some (.int .i64 x.id.r):=hc k x hx 1 _ rfl
   have x2:wr.cell? ⟨b,o+k*4+2,none⟩=some (.int .i64 x.ch):=hc k x hx 2 _ rfl
   have x3:wr.cell? ⟨b,o+k*4+3,none⟩=some (.bool x.gone):=hc k x hx 3 _ rfl
   have HX:=Lib.hid hx
   have hcl:=(RI l k).2.1
   obtain ⟨m,hm⟩:=Je ((cur l k).1.length)
   have hkk:(k:Int)<(l.length:Int):=by omega
   have hk0:(0:Int)≤(k:Int):=by omega
   rw[hm] at HO hcl
   rw[hm]
   have HM:=Lib.hid hm
   clear hx hc hm
   go_wp2_with fail
   refine (TM x _).mono ?_
   rintro e w2 ⟨rfl,b2⟩
   have y0:=Z0 b2 x0
   have y1:=Z0 b2 x1
   have hO2:=HO.out.ext (Ext.of_below (S:=fun _=>False) b2) (fun _ _ f=>f)
   have HB2:=Jh (HB.out.trans (b2.mono HB.out.size))
   have hsz:w.heap.size≤w2.heap.size:=HB2.out.size
   clear x0 x1 x2 x3 b2 HO HB
   have hz:(YE l k).length=m+1:=by rw[Z06,HM.out]
   cases hb:Yg x with
   | false =>
    have hSN:=Z03 HX.out hb
    rw[HM.out] at hSN
    have hcn:=UZ HX.out hb
    have hat:(YE l k)[m]?=some ⟨(cur l k).2.1,(cur l k).2.2,k⟩:=by
     rw[←HM.out];simp[YE]
    rw[←hz] at hO2
    have hfr:=hO2.free (m*4+2)
    have hce:=hO2.cellAt Spn.len hat (j:=2) rfl
    have hce3:=hO2.cellAt Spn.len hat (j:=3) rfl
    have hst:=hO2.setAt Spn.len hat (j:=3) (y:=⟨(cur l k).2.1,(cur l k).2.2,k+1⟩) (u:=.int .i64 ((k+1:Nat):Int)) (by omega) rfl
    have hfr3:=hO2.free (m*4+3)
    have hgl:=hO2.blk g0 rfl
    rw[hz,←hSN] at hst
    have HST:=Lib.hid hst
    have HCN:=Lib.hid hcn
    have hjq:IntKind.i64.wrap (((m:Nat):Int)+1 - 1)=(m:Int):=by rw[show ((m:Int)+1 - 1)=(m:Int) by omega];exact IntWalk.i64_in _ (by omega)
    have hm0:(0:Int)≤(m:Int):=by omega
    have hm1:(m:Int)<((m:Nat):Int)+1:=by omega
    have hk1:IntKind.i64.wrap ((k:Int)+1)=(k:Int)+1:=IntWalk.i64_in _ (by omega)
    clear hst hO2 hat hSN hcn hb hz
    go_wp2_with fail
    have hn5:Below w.heap.size w (w2.setCell ⟨g0,m*4+3,none⟩ (.int .i64 ((k:Int)+1))):=HB2.out.setCell (p:=⟨g0,m*4+3,none⟩) hgl.1 _
    go_roundg (l.length - (k+1))
    case measure=>rw[HG.out];omega
    case rel=>exact ⟨k+1,g0,cp,rfl,by omega,by go_num,by rw[HCN.out,HM.out],Jh (by rw[HCN.out,HM.out];exact HST.out),Lib.hid hn5⟩
   | true =>
    have hSN:=Z16 HX.out hb
    have hcn:=T1 HX.out hb
    have HSN:=Lib.hid hSN
    have HCN:=Lib.hid hcn
    have hgl:=hO2.blk g0 rfl
    have hO3:Own Spn.cells 4 109 w.heap.size w2 (.slice (some ⟨g0,0,none⟩) (m+1) cp) (YE l k):=hO2
    have hk1:IntKind.i64.wrap ((k:Int)+1)=(k:Int)+1:=IntWalk.i64_in _ (by omega)
    clear hO2 hSN hcn hb
    go_upto_region 8 with (at_builtin;refine Zq rfl _ _ _ rfl i0 (.agg #[.int .i64 0,.int .i64 0,.int .i64 0,.int .i64 0]) 32 Tryz.underlying106 hi hz0 hz1' hz2 rfl (by omega) Spn.len Spn.one rfl (hO3.alloc _) ⟨x.id,k+1,0⟩ w2.heap.size 1 rfl ?_ (by unfold maxLen;omega) (by omega) (by simp;omega) ?_)
    ·intro j u hj
     match j,hj with
     | 0,hj=>simp[Spn.cells] at hj;subst hj;go_simp
     | 1,hj=>simp[Spn.cells] at hj;subst hj;go_simp
     | 2,hj=>simp[Spn.cells] at hj;subst hj;go_simp
     | 3,hj=>simp[Spn.cells] at hj;subst hj;go_simp
     | n+4,hj=>simp[Spn.cells] at hj
    ·intro v' w3 hown hx3
     have HB3:=Jh (Ext.new (HB2.out.alloc hsz _) hx3 (fun i hi _ e=>by have e2:g0=i:=Option.some.inj e;omega) (by simp;omega))
     obtain ⟨g,c2,nn,rfl⟩:∃ g c nn,v'=.slice (some ⟨g,0,none⟩) nn c:=by
      rcases hown.eq_slice with ⟨_,h⟩|⟨g,c,h,_⟩
      ·simp at h
      ·exact ⟨g,c,_,h⟩
     have hnn:nn=m+2:=by
      rcases hown.eq_slice with ⟨h,_⟩|⟨g',c',h,_⟩
      ·cases h
      ·have h2:=(Value.slice.inj h).2.1
       rw[h2,List.length_append,hz]
       rfl
     subst hnn
     have hat:(YE l k++[(⟨x.id,k+1,0⟩:Spn)])[m+1]?=some ⟨x.id,k+1,0⟩:=by
      rw[←hz];simp
     have hz2:(YE l k++[(⟨x.id,k+1,0⟩:Spn)]).length=m+2:=by rw[List.length_append,hz];rfl
     rw[←hz2] at hown
     have hfr:=hown.free ((m+1)*4+3)
     have hce:=hown.cellAt Spn.len hat (j:=3) rfl
     have hst:=hown.setAt Spn.len hat (j:=3) (y:=⟨x.id,k+1,k+1⟩) (u:=.int .i64 ((k+1:Nat):Int)) (by omega) rfl
     have hgl3:=hown.blk g rfl
     have hss:(YE l k++[(⟨x.id,k+1,0⟩:Spn)]).set (m+1) ⟨x.id,k+1,k+1⟩=YE l (k+1):=by
      rw[HSN.out,←hz];simp
     rw[hz2,hss] at hst
     have HST:=Lib.hid hst
     have hn5:Below w.heap.size w (w3.setCell ⟨g,(m+1)*4+3,none⟩ (.int .i64 ((k:Int)+1))):=HB3.out.setCell (p:=⟨g,(m+1)*4+3,none⟩) hgl3.1 _
     have HN5:=Lib.hid hn5
     have hjq:IntKind.i64.wrap (((m+1:Nat):Int)+1 - 1)=((m+1:Nat):Int):=by rw[show (((m+1:Nat):Int)+1 - 1)=((m+1:Nat):Int) by omega];exact IntWalk.i64_in _ (by omega)
     obtain ⟨mm,hmm⟩:=Je (m+1)
     rw[show m+2=mm+1 by omega] at HST ⊢
     rw[hmm] at hjq hfr hce HST HN5
     have hm0:(0:Int)≤(mm:Int):=by omega
     have hm1:(mm:Int)<(mm:Int)+1:=by omega
     have hmb:mm≤2000:=by omega
     have HMM:=Lib.hid hmm
     clear hst hown hat hz2 hss hn5 hO3 hz hx3 hmm hgl3
     go_wp2_with fail
     go_roundg (l.length - (k+1))
     case measure=>rw[HG.out];omega
     case rel=>exact ⟨k+1,g,c2,rfl,by omega,by go_num,by rw[HCN.out];simp[HM.out,HMM.out],Jh (by rw[HCN.out];simp only[List.length_append,HM.out,HMM.out,List.length_singleton];exact HST.out),HN5⟩
  ·obtain rfl:k=l.length:=by omega
   have hkk:¬ (l.length:Int)<(l.length:Int):=by omega
   clear hlt hk
   go_wp2_with fail
   go_ret
   exact ⟨_,rfl,HO.out,HB.out⟩
attribute [local go_sem] Oper.semAt_some
theorem Qj (va:Option Addr) (m vc:Nat) (w:World):Calls Tryz.prog 63 #[.slice va m vc] w
  fun e w'=>e=.returned (.func (.func 91) #[] #[.pointer (some ⟨w.heap.size,0,none⟩)])∧w'=w.alloc (.cells #[.slice va m vc] 34):=by
 go_enter Tryz.func63,Tryz.ntmps63
 go_wp2_with fail
 go_ret
 exact ⟨rfl,rfl⟩
def SpB (W:World) (b:Nat) (s:St) (lo hi:Int):Prop:=W.heap[b]?=some (.cells #[.int .i64 s.n,.int .i64 s.r,.int .i64 lo,.int .i64 hi] 109 (0,0))
theorem SpB.lt {W:World} {b:Nat} {s:St} {lo hi:Int} (h:SpB W b s lo hi):b<W.heap.size:=(Array.getElem?_eq_some_iff.1 h).1
theorem SpB.cells {W:World} {b:Nat} {s:St} {lo hi:Int} (h:SpB W b s lo hi):W.cell? ⟨b,0,none⟩=some (.int .i64 s.n)∧W.cell? ⟨b,1,none⟩=some (.int .i64 s.r)∧W.cell? ⟨b,2,none⟩=some (.int .i64 lo)∧W.cell? ⟨b,3,none⟩=some (.int .i64 hi)∧∀ i,W.frozen? ⟨b,i,none⟩=false:=by
 have h:=show W.heap[b]?=_ from h
 refine ⟨?_,?_,?_,?_,fun i=>?_⟩ <;> simp[World.cell?,World.frozen?,h]
theorem SpB.ext {S:Nat→Prop} {W W':World} {b:Nat} {s:St} {lo hi:Int} (h:SpB W b s lo hi) (hx:Ext S W W') (hn:¬ S b):SpB W' b s lo hi:=(hx.block b h.lt hn).trans h
theorem SpB.setHi {W:World} {b:Nat} {s:St} {lo hi:Int} (h:SpB W b s lo hi) (k:Int):SpB (W.setCell ⟨b,3,none⟩ (.int .i64 k)) b s lo k:=by
 have h:=show W.heap[b]?=_ from h
 show (World.heap _)[b]?=_
 simp only[World.setCell,Array.getElem?_modify,if_true,h]
 rfl
theorem SpB.set {W:World} {b:Nat} {s:St} {lo hi:Int} (h:SpB W b s lo hi) (x y z u:Int):SpB ((((W.setCell ⟨b,0,none⟩ (.int .i64 x)).setCell ⟨b,1,none⟩ (.int .i64 y)).setCell ⟨b,2,none⟩ (.int .i64 z)).setCell ⟨b,3,none⟩ (.int .i64 u)) b ⟨x,y⟩ z u:=by
 have h:=show W.heap[b]?=_ from h
 show (World.heap _)[b]?=_
 simp only[World.setCell,Array.getElem?_modify,if_true,h]
 rfl
theorem QK (l:List El) (n:Nat):∀ m,(cur l n).1 <+: (cur l (n+m)).1
 | 0=>List.prefix_refl _
 | m+1=>by
  refine (QK l n m).trans ?_
  rw[←Nat.add_assoc,cur]
  split
  ·split
   ·exact List.prefix_append _ _
   ·exact List.prefix_refl _
  ·exact List.prefix_refl _
theorem Z1v {l:List El} {n:Nat} (h:n≤l.length):(cur l n).1 <+: ZY l:=by
 have:=QK l n (l.length - n)
 rw[show n+(l.length - n)=l.length by omega] at this
 exact this.trans (List.prefix_append _ _)
theorem R8 (n:Nat) (hn:1≤n) (Bs:Nat) (v:Value) (l:List El) (R:World→Nat→Prop) (w:World) (hv:Z5 El.cells 4 w v l) (hln:l.length≤1000) (hB:w.cell? ⟨Bs,0,none⟩=some v) (hRB:∀ A,¬ R A Bs) (hRs:∀ A,¬ R A (w.heap.size+2))
  (hRe:∀ A k cur,w.heap.size+2<k→A.heap[k]?=some (.cells cur 46 (0,0))→¬ R A k) (hRv:l≠[]→∀ b o m c,v=.slice (some ⟨b,o,none⟩) m c→(∀ A,¬ R A b)∧b<w.heap.size) :
  TO Tryz.prog n 91 #[.pointer (some ⟨Bs,0,none⟩)] (fun x:Spn=>#[.agg #[.int .i64 x.blk.n,.int .i64 x.blk.r,.int .i64 x.lo,.int .i64 x.hi]]) R (·=w.heap.size+2) (ZY l) w:=by
 intro lb I W hl hW hb hI hY h0
 obtain ⟨va,vc,rfl,hcap,hmax,hcs⟩:=id hv
 unfold maxLen at hmax
 have hBl:=Zj hB
 have HI:=Lib.hid hI
 have HY:=Lib.hid hY
 have HB:=Jh (Z0 hb hB)
 have HV:=Lib.hid hRv
 have hS0:Z5 El.cells 4 W (.slice va l.length vc) l:=hv.below hb
 have h0a:I [] (W.alloc (.cells #[.int .i64 0,.int .i64 0,.int .i64 0,.int .i64 0] 109)):=hI _ _ _ h0 ((Ext.refl _ _).alloc _)
 have hSB:SpB (W.alloc (.cells #[.int .i64 0,.int .i64 0,.int .i64 0,.int .i64 0] 109)) W.heap.size ⟨0,0⟩ 0 0:=World.alloc_heap_new W _
 have hs1:(W.alloc (.cells #[.int .i64 0,.int .i64 0,.int .i64 0,.int .i64 0] 109)).heap.size=w.heap.size+3:=by simp;omega
 have hb1:Below W.heap.size W (W.alloc (.cells #[.int .i64 0,.int .i64 0,.int .i64 0,.int .i64 0] 109)):=(Below.refl _ _).alloc (Nat.le_refl _) _
 have b1:=Z0 hb1 HB.out
 have hS1:=hS0.below hb1
 clear hcs hI hY hRv hb hB hS0 h0 hv hb1
 refine callsIn_of_wp Tryz.func91 rfl trivial ?_ rfl
 simp only[Tryz.ntmps91,List.size_toArray,List.length_cons,List.length_nil,Nat.reduceAdd,Nat.reduceSub,Array.replicate_succ,Array.replicate_zero,List.push_toArray,List.append_toArray,List.nil_append,List.cons_append]
 gi_wp2
 subst hl
 rw[hW] at hSB
 generalize W.alloc (.cells #[.int .i64 0,.int .i64 0,.int .i64 0,.int .i64 0] 109)=w1 at *
 gi_loopw [9] (fun iv wr=>∃ (k:Nat) (hi:Int),k≤l.length∧iv=.int .i64 k∧wr.cell? ⟨Bs,0,none⟩=some (.slice va l.length vc)∧Z5 El.cells 4 wr (.slice va l.length vc) l∧SpB wr (w.heap.size+2) (cur l k).2.1 (cur l k).2.2 hi∧I (cur l k).1 wr) (fun iv _=>(l.length - intOf iv).toNat)
 case atStart=>exact ⟨0,0,Nat.zero_le _,rfl,b1,hS1,hSB,h0a⟩
 case round =>
  clear b1 hS1 hSB h0a
  obtain ⟨k,hh,hk,rfl,b0,hS,hSp,hi⟩:=hrel
  have hzr:=hSp.lt
  by_cases hlt:k<l.length
  ·obtain ⟨x,hx⟩:∃ x,l[k]?=some x:=⟨_,List.getElem?_eq_getElem hlt⟩
   obtain ⟨_,_,e1,_,_,h4⟩:=id hS
   cases e1
   obtain ⟨b,o,rfl,hcc⟩:=h4 (by intro e;rw[e] at hx;simp at hx)
   have x0:wr.cell? ⟨b,o+k*4,none⟩=some (.int .i64 x.id.n):=hcc k x hx 0 _ rfl
   have x1:wr.cell? ⟨b,o+k*4+1,none⟩=some (.int .i64 x.id.r):=hcc k x hx 1 _ rfl
   have x2:wr.cell? ⟨b,o+k*4+2,none⟩=some (.int .i64 x.ch):=hcc k x hx 2 _ rfl
   have x3:wr.cell? ⟨b,o+k*4+3,none⟩=some (.bool x.gone):=hcc k x hx 3 _ rfl
   have hne0:l≠[]:=by intro e;rw[e] at hx;simp at hx
   obtain ⟨v1,v2⟩:=HV.out hne0 b o _ _ rfl
   have hB0:Below wr.heap.size wr (wr.alloc (.cells #[.int .i64 x.id.n,.int .i64 x.id.r,.int .i64 x.ch,.bool x.gone] 46)):=(Below.refl _ _).alloc (Nat.le_refl _) _
   have hEl:(wr.alloc (.cells #[.int .i64 x.id.n,.int .i64 x.id.r,.int .i64 x.ch,.bool x.gone] 46)).heap[wr.heap.size]?=some (.cells #[.int .i64 x.id.n,.int .i64 x.id.r,.int .i64 x.ch,.bool x.gone] 46 (0,0)):=World.alloc_heap_new wr _
   have HX:=Lib.hid hx
   have hkl:(k:Int)<(l.length:Int):=by omega
   have hk0:(0:Int)≤(k:Int):=by omega
   clear hcc h4 hx
   gi_wp2
   refine ⟨by first|trivial|(intros;omega),?_⟩
   refine (callsIn_wide.2 (Rj x _)).mono ?_
   rintro e W2 ⟨rfl,hb2⟩
   have hW2:=hB0.trans (hb2.mono hB0.size)
   have hsz0:(wr.alloc (.cells #[.int .i64 x.id.n,.int .i64 x.id.r,.int .i64 x.ch,.bool x.gone] 46)).heap.size=wr.heap.size+1:=by simp
   have hE2:W2.heap[wr.heap.size]?=some (.cells #[.int .i64 x.id.n,.int .i64 x.id.r,.int .i64 x.ch,.bool x.gone] 46 (0,0)):=(hb2.block _ (by rw[hsz0];omega)).trans hEl
   have hSp2:=hSp.ext (Ext.of_below (S:=fun _=>False) hW2) (fun f=>f)
   have hS2:=hS.below hW2
   have b2:=Z0 hW2 b0
   have hi2:=HI.out _ _ _ hi (Ext.mono (Ext.of_below (S:=fun _=>False) hW2) (fun _ _ f=>f.elim))
   have hz2:wr.heap.size<W2.heap.size:=by have:=hb2.size;rw[hsz0] at this;omega
   clear x0 x1 x2 x3 hB0 hEl hb2 hW2 hsz0 hSp hS b0 hi
   cases hb:Yg x with
   | false =>
    have HCN:=Jh (UZ HX.out hb)
    clear hb
    gi_wp2
    go_roundw
    case rel=>exact ⟨k+1,hh,hlt,by go_num,b2,hS2,by rw[HCN.out];exact hSp2,by rw[HCN.out];exact hi2⟩
    case measure=>simp[intOf];omega
   | true =>
    have hcn:=T1 HX.out hb
    obtain ⟨p0,p1,p2,p3,pf⟩:=hSp2.cells
    have pf0:=pf 0
    have pf1:=pf 1
    have pf2:=pf 2
    have pf3:=pf 3
    have hx3:=(Ext.refl (·=w.heap.size+2) W2).setCell (p:=⟨w.heap.size+2,3,none⟩) (.inr rfl) (.int .i64 (k:Int))
    have hSp3:=hSp2.setHi (k:Int)
    have hi3:=HI.out _ _ _ hi2 hx3
    have hE3:=(hx3.block _ hz2 (by omega)).trans hE2
    have hS3:=hS2.ext hx3 (fun b' o' m c e h=>by cases e;omega)
    have b3:=hx3.keep b2 (by omega)
    have hpx:(cur l k).1++[(⟨(cur l k).2.1,(cur l k).2.2,k⟩:Spn)] <+: ZY l:=by
     have:=Z1v (l:=l) (n:=k+1) hlt
     rw[hcn] at this
     exact this
    obtain ⟨fn,tmps,assign,body,hy,hR⟩:=HY.out (cur l k).1 ⟨(cur l k).2.1,(cur l k).2.2,k⟩ _ hi3 hpx
    dsimp only at hy
    have HCN:=Lib.hid hcn
    have HE3:=Lib.hid hE3
    have HS3:=Lib.hid hS3
    have HB3:=Lib.hid b3
    have HSp3:=Lib.hid hSp3
    clear hb hcn hi2 hi3 hpx hE2 hE3 hS2 hS3 b2 b3 hSp3 hx3 hSp2
    gi_wp2
    refine hR.mono ?_
    rintro e W4 ⟨rfl,hI4,hx4⟩
    have hz3:(W2.setCell ⟨w.heap.size+2,3,none⟩ (.int .i64 (k:Int))).heap.size=W2.heap.size:=by simp[World.setCell]
    have hE4:=(hx4.block _ (by rw[hz3];exact hz2) (fun h=>by
     rcases h with h|h
     ·omega
     ·exact hRe _ _ _ (by omega) HE3.out h)).trans HE3.out
    have hSp4:=HSp3.out.ext hx4 (fun h=>by
     rcases h with h|h
     ·omega
     ·exact hRs _ h)
    have b4:=hx4.keep HB3.out (fun h=>by
     rcases h with h|h
     ·omega
     ·exact hRB _ h)
    have hS4:=HS3.out.ext hx4 (fun b' o' m c e h=>by
     cases e
     rcases h with h|h
     ·omega
     ·exact v1 _ h)
    have e0:W4.cell? ⟨wr.heap.size,0,none⟩=some (.int .i64 x.id.n):=by simp[World.cell?,hE4]
    have e1:W4.cell? ⟨wr.heap.size,1,none⟩=some (.int .i64 x.id.r):=by simp[World.cell?,hE4]
    obtain ⟨s0,s1,s2,s3,sf⟩:=hSp4.cells
    have sf0:=sf 0
    have sf1:=sf 1
    have sf2:=sf 2
    have sf3:=sf 3
    have HSp5:=Jh (hSp4.set x.id.n x.id.r ((k:Int)+1) 0)
    have hx5:Ext (·=w.heap.size+2) W4 ((((W4.setCell ⟨w.heap.size+2,0,none⟩ (.int .i64 x.id.n)).setCell ⟨w.heap.size+2,1,none⟩ (.int .i64 x.id.r)).setCell ⟨w.heap.size+2,2,none⟩ (.int .i64 ((k:Int)+1))).setCell ⟨w.heap.size+2,3,none⟩ (.int .i64 0)) :=
     ((((Ext.refl (·=w.heap.size+2) W4).setCell (p:=⟨w.heap.size+2,0,none⟩) (.inr rfl) _).setCell (p:=⟨w.heap.size+2,1,none⟩) (.inr rfl) _).setCell (p:=⟨w.heap.size+2,2,none⟩) (.inr rfl) _).setCell (p:=⟨w.heap.size+2,3,none⟩) (.inr rfl) _
    have HI5:=Jh (HI.out _ _ _ hI4 hx5)
    have HB5:=Jh (hx5.keep b4 (by omega))
    have HS5:=Jh (hS4.ext hx5 (fun b' o' m c e h=>by cases e;omega))
    clear hE4 hSp4 b4 hS4 sf hx5 hI4 hx4 hy hR p0 p1 p2 p3 pf pf0 pf1 pf2 pf3
    gi_wp2
    go_roundw
    case rel=>exact ⟨k+1,0,hlt,by go_num,HB5.out,HS5.out,by rw[HCN.out];exact HSp5.out,by rw[HCN.out];exact HI5.out⟩
    case measure=>simp[intOf];omega
  ·obtain rfl:k=l.length:=by omega
   have hkl:¬ (l.length:Int)<(l.length:Int):=by omega
   clear hlt hk
   obtain ⟨p0,p1,p2,p3,pf⟩:=hSp.cells
   have pf3:=pf 3
   have hx3:=(Ext.refl (·=w.heap.size+2) wr).setCell (p:=⟨w.heap.size+2,3,none⟩) (.inr rfl) (.int .i64 (l.length:Int))
   have hi3:=HI.out _ _ _ hi hx3
   obtain ⟨fn,tmps,assign,body,hy,hR⟩:=HY.out (cur l l.length).1 ⟨(cur l l.length).2.1,(cur l l.length).2.2,l.length⟩ _ hi3 (List.prefix_refl _)
   dsimp only at hy
   clear hi hi3 hx3 hS
   gi_wp2
   refine hR.mono ?_
   rintro e W4 ⟨rfl,hI4,hx4⟩
   clear hy hR p0 p1 p2 p3 pf pf3 hx4
   gi_wp2
   go_end0
   exact ⟨⟨_,rfl⟩,hI4⟩
end Go.Proofs.YtlgipkemoldckaaGreatDoor
namespace Go.Proofs.YtlgipkemoldckaaGreatDoor
open Go Go.RowKit Go.Deep
section
variable {P:Program} {ops:Array Oper} {Q:Exit→Act→World→Prop} {md:Region.Mode} {S:World→Prop} {Z:Nat→Bool}
def Z26 (md:Region.Mode) (ops:Array Oper) (i:Nat) (js:List Nat) (listed:Array Bool):Prop :=
 ∀ j∈js,listed.getD j true=false∧∃ oj,ops[j]?=some oj∧∃ e∈oj.after,Region.binds md e=true∧(e.on=i∨e.on∈js)
def RY (md:Region.Mode) (ops:Array Oper) (Z:Nat→Bool) (listed:Array Bool) (i:Nat) (js:List Nat):Bool :=
 (js.all fun j=>!(listed.getD j true) && (match ops[j]? with
  | some o=>o.after.any fun e=>Region.binds md e && (e.on == i || js.contains e.on)
  | none=>false)) && (List.range ops.size).all fun j=>listed.getD j true || !Z j || js.contains j
theorem T9 {listed:Array Bool} {i:Nat} {js:List Nat} (h:RY md ops Z listed i js=true):Z26 md ops i js listed∧∀ j oj,Z j=true→listed.getD j true=false→ops[j]?=some oj→j∈js:=by
 unfold RY at h
 rw[Bool.and_eq_true] at h
 refine ⟨fun j hj=>?_,fun j oj hz hu ho=>?_⟩
 ·have:=List.all_eq_true.1 h.1 j hj
  rw[Bool.and_eq_true,Bool.not_eq_true'] at this
  refine ⟨this.1,?_⟩
  cases ho:ops[j]? with
  | none=>rw[ho] at this;exact absurd this.2 (by simp)
  | some o =>
   rw[ho] at this
   obtain ⟨k,hk,h2⟩:=Array.any_eq_true.1 this.2
   rw[Bool.and_eq_true,Bool.or_eq_true,beq_iff_eq,List.contains_iff_mem] at h2
   exact ⟨o,rfl,_,Array.getElem_mem hk,h2.1,h2.2⟩
 ·have:=List.all_eq_true.1 h.2 j (List.mem_range.2 (Array.getElem?_eq_some_iff.1 ho).1)
  rw[hz,hu] at this
  simpa using this
theorem R5 {i:Nat} {oi:Oper} {v:Value} {js:List Nat} (hi:ops[i]?=some oi)
  (hsel:∀ (j:Nat) (o:Oper) cs b,ops[j]?=some o→o.op≠.select cs b) (hQ:∀ c a w,Q (.panic c) (a.put oi.dst v) w→Q (.panic c) a w) (hiz:Z i=false) (fuel:Nat) :
  ∀ (listed:Array Bool) (a:Act) (w:World),Z26 md ops i js listed→(∀ j oj,Z j=true→listed.getD j true=false→ops[j]?=some oj→j∈js)→XZ md ops i oi listed→YieldsIf P ops S oi v a→S w →
   Zu P md ops Q S Z fuel (listed.setIfInBounds i true) (a.put oi.dst v) w→Zu P md ops Q S Z (fuel+1) listed a w:=by
 induction fuel using Nat.strongRecOn with
 | _ fuel ih =>
  intro listed a w hbl hzj hA hy hS H
  refine ⟨fun h0=>absurd (h0 ▸ hA.1:i∈[]) (by simp),fun j hj=>?_⟩
  rcases Decidable.em (j=i) with hji|hji
  ·rw[hji]
   exact hy.wpOp hi hS ⟨fun _=>hS,H⟩
  ·obtain ⟨n,rfl,hop⟩:=US H (ready_mono hj hji)
   obtain ⟨hun,oj,hoj,hall⟩:=mem_ready.1 hj
   obtain ⟨hno,hap⟩:=hA.2 [] (by simp) j oj hj hji hoj
   have hjs:j∉js:=fun hm=>by
    obtain ⟨_,oj',hoj',e,he,hb,hd⟩:=hbl j hm
    rw[hoj] at hoj'
    cases hoj'
    rcases hd with hd|hd
    ·exact hno e he hb hd
    ·have h1:=hall e he hb
     rw[SD (hbl _ hd).1] at h1
     cases h1
   have hjz:Z j=false:=by
    cases hz:Z j with
    | false=>rfl
    | true=>exact absurd (hzj j oj hz hun hoj) hjs
   refine wpOp_mono ?_ (wpOp_putIf hoj hap (fun cs b=>hsel i oi cs b hi) (fun cs b=>hsel j oj cs b hoj) hQ hy hop)
   rintro a' w' ⟨hy',hS',H'⟩
   rw[Array.setIfInBounds_comm _ _ (Ne.symm hji)] at H'
   refine ⟨hS',ih n (Nat.lt_succ_self n) _ a' w' (fun q hq=>?_) (fun q oq hq hu=>hzj q oq hq (Uc [j] listed hu)) (hA.step hji) hy' (hS' hjz) H'⟩
   obtain ⟨h1,h2⟩:=hbl q hq
   exact ⟨by rw[getD_set_ne true (fun e=>hjs (by rw[e];exact hq))];exact h1,h2⟩
theorem Yf {i:Nat} {oi:Oper} {d:Option Tmp} {v:Value} {fuel:Nat} {listed:Array Bool} {a:Act} {w:World} (js:List Nat) (hi:ops[i]?=some oi) (hd:oi.dst=d) (hiz:Z i=false) (hwait:RY md ops Z listed i js=true)
  (hs:Region.noSelect ops=true) (hf:Region.free md ops listed i=true) (hr:(Region.ready md ops listed).contains i=true)
  (hQ:∀ c a w,Q (.panic c) (a.put d v) w→Q (.panic c) a w) (hy:YieldsIf P ops S oi v a) (hS:S w)
  (h:Zu P md ops Q S Z fuel (listed.setIfInBounds i true) (a.put d v) w):Zu P md ops Q S Z (fuel+1) listed a w:=by
 subst hd
 exact R5 hi (Region.noSelect_spec hs) hQ hiz fuel listed a w (T9 hwait).1 (T9 hwait).2 (XZ.of_free hi (by simpa using hr) hf) hy hS h
end
end Go.Proofs.YtlgipkemoldckaaGreatDoor
namespace Go.Proofs.YtlgipkemoldckaaGreatDoor
open Go.RowKit
def Rf (V:Vw) (b:Bl) (N n:Nat):Prop:=∀ (u:St) (m:Nat) (W:World),BIs W b V→Y9 V.H m u→N+1≤n+m→Calls Tryz.prog 48 #[.pointer (some ⟨b.bb,0,none⟩),.agg #[.int .i64 u.n,.int .i64 u.r]] W fun e w'=>Vq V n u W e w'
def Z1N (V:Vw) (b:Bl) (N n:Nat):Prop:=∀ (u:St) (s:Spn) (m:Nat) (W:World),BIs W b V→YD b.l u=some s→Y9 V.H m u→N+1≤n+m→Calls Tryz.prog 71 #[.pointer (some ⟨b.bb,0,none⟩),.agg #[.int .i64 u.n,.int .i64 u.r,.int .i64 s.lo,.int .i64 s.hi]] W fun e w'=>RG V n u W e w'
noncomputable def YS (V:Vw) (n:Nat) (K:List Ch) (k:Nat):List Nd:=(K.take k).flatMap fun c=>V.one n c.block
theorem WY {V:Vw} {n:Nat} {K:List Ch} {k:Nat} {c:Ch} (h:K[k]?=some c):YS V n K (k+1)=YS V n K k++V.one n c.block:=by
 unfold YS
 rw[List.take_add_one,h,List.flatMap_append]
 simp
theorem Uj (V:Vw) (n:Nat) (K:List Ch) (k:Nat):(YS V n K k).length≤(K.flatMap fun c=>V.one n c.block).length:=by
 unfold YS
 conv=>rhs;rw[←List.take_append_drop k K,List.flatMap_append,List.length_append]
 omega
theorem Z1T (w:World):(zeroValue 109).run Tryz.prog w=.ok (.agg #[.int .i64 0,.int .i64 0,.int .i64 0,.int .i64 0]) w:=by kernel_rfl
theorem YN:Tryz.prog.underlying 26=some (.slice 28):=by kernel_rfl
theorem Z2o (V:Vw) (b:Bl) (A:List Ch) (n:Nat) (hA:Zo V.H A) (hAl:A.length≤10000) (hrow:Rf V b A.length n) (hnode:Z1N V b A.length n):Rf V b A.length (n+1):=by
 intro u m w hB he hnm
 have hlen:=Vw.row_le hA (n:=n+1) he
 rw[Vw.row_succ] at hlen
 obtain ⟨ps,hps,hpa⟩:=hB.pm
 obtain ⟨lk,hlk,hk1,hk2⟩:=hB.km
 have hin:∀ c∈Yl V.H u,Y9 V.H (m+1) c.block:=fun c hc=>by
  obtain ⟨h1,h2⟩:=XR hc
  exact ⟨c,h1,by rw[h2];exact he⟩
 obtain ⟨K,hK⟩:=Je (Yl V.H u)
 have HROW:Hid (V.row (n+1) u=K.flatMap fun c=>V.one n c.block):=Jh (by rw[Vw.row_succ,hK])
 obtain ⟨ka,kc,hlook,hKs⟩:∃ ka kc,(∀ W',Z6 St.val Sl.val W' b.kb lk→(Instr.lookup 103 (.map (some b.kb)) (.agg #[.int .i64 u.n,.int .i64 u.r]) false).run Tryz.prog W'=.ok (.slice ka K.length kc) W')∧Z5 Ch.cells 5 w (.slice ka K.length kc) K:=by
  cases e:Z3 lk u with
  | some s =>
   have h1:=hk1 u s e
   rw[hK] at h1
   obtain ⟨a,c,e2,_⟩:=id h1
   rw[e2] at h1
   refine ⟨a,c,fun W' hW'=>?_,h1⟩
   have:=hW'.lookup ZN WS VG u
   rw[e,Option.map_some,Option.getD_some,e2] at this
   exact this
  | none =>
   have h1:=hk2 u e
   rw[hK] at h1
   subst h1
   refine ⟨none,0,fun W' hW'=>?_,⟨none,0,rfl,Nat.le_refl _,Nat.zero_le _,fun h=>absurd rfl h⟩⟩
   have:=hW'.lookup ZN WS VG u
   rw[e] at this
   exact this
 rw[hK] at hlen hin
 obtain ⟨i0,hi,hz0,hz1',hz2⟩:=info_parts Xc
 have hB0:Below w.heap.size w (w.alloc (.cells #[.int .i64 u.n,.int .i64 u.r] 23)):=(Below.refl _ _).alloc (Nat.le_refl _) _
 have x0:(w.alloc (.cells #[.int .i64 u.n,.int .i64 u.r] 23)).cell? ⟨w.heap.size,0,none⟩=some (.int .i64 u.n):=by go_simp
 have x1:(w.alloc (.cells #[.int .i64 u.n,.int .i64 u.r] 23)).cell? ⟨w.heap.size,1,none⟩=some (.int .i64 u.r):=by go_simp
 have hB1:=hB.below hB0
 have hl1:=hlk.below hB0
 have hK1:=hKs.below hB0
 have hp1:=hps.below hB0
 have hkm:K.length≤kc∧kc≤maxLen:=by
  obtain ⟨_,_,e,h1,h2,_⟩:=hKs
  cases e
  exact ⟨h1,h2⟩
 unfold maxLen at hkm
 obtain ⟨hkm1,hkm2⟩:=hkm
 have c2:=hB1.c2
 have HB0:=Lib.hid hB0
 have HB1:=Lib.hid hB1
 have HK1:=Lib.hid hK1
 have HP1:=Lib.hid hp1
 have HPA:=Lib.hid hpa
 have HIN:=Lib.hid hin
 have HNODE:=Lib.hid hnode
 have HRW:=Lib.hid hrow
 clear hB hps hpa hlk hk1 hk2 hKs hB0 hB1 hK1 hp1 hK hin hnode hrow
 go_enter Tryz.func48,Tryz.ntmps48
 go_upto_region 2 with fail
 generalize w.alloc (.cells #[.int .i64 u.n,.int .i64 u.r] 23)=w1 at *
 have hS0:(fun W:World=>W.cell? ⟨b.bb,2,none⟩=some (.map (some b.kb))∧W.cell? ⟨w.heap.size,0,none⟩=some (.int .i64 u.n)∧W.cell? ⟨w.heap.size,1,none⟩=some (.int .i64 u.r)∧(Instr.lookup 103 (.map (some b.kb)) (.agg #[.int .i64 u.n,.int .i64 u.r]) false).run Tryz.prog W=.ok (.slice ka K.length kc) W) w1.drew:=⟨c2,x0,x1,hlook _ hl1.drew⟩
 refine Zf (fun W:World=>W.cell? ⟨b.bb,2,none⟩=some (.map (some b.kb))∧W.cell? ⟨w.heap.size,0,none⟩=some (.int .i64 u.n)∧W.cell? ⟨w.heap.size,1,none⟩=some (.int .i64 u.r)∧(Instr.lookup 103 (.map (some b.kb)) (.agg #[.int .i64 u.n,.int .i64 u.r]) false).run Tryz.prog W=.ok (.slice ka K.length kc) W) (fun _=>false) (by kernel_rfl) ?_
 refine J4 0 10 _ hS0 ?_
 try simp only[Ja]
 refine J4 1 11 _ hS0 ?_
 try simp only[Ja]
 refine J4 2 12 _ hS0 ?_
 try simp only[Ja]
 refine J4 3 13 (.map (some b.kb)) hS0 ?_
 try simp only[Ja]
 refine J4 4 14 (.agg #[.int .i64 u.n,.int .i64 u.r]) hS0 ?_
 try simp only[Ja]
 refine J4 5 15 (.slice ka K.length kc) hS0 ?_
 try simp only[Ja]
 refine J4 6 16 _ hS0 ?_
 try simp only[Ja]
 refine J4 7 17 _ hS0 ?_
 try simp only[Ja]
 refine Zd (by kernel_rfl) ?_ _
 have HW1:Hid (Below w1.heap.size w1 w1.drew∧w1.heap.size=w1.drew.heap.size):=Lib.hid ⟨(Below.refl _ _).drew,rfl⟩
 have hz1:w.heap.size≤w1.heap.size:=HB0.out.size
 have HB2:=Jh (HB0.out.drew)
 have HBI:=Jh (HB1.out.below HW1.out.1)
 have HKS:=Jh (HK1.out.below HW1.out.1)
 have HPS:=Jh (HP1.out.below HW1.out.1)
 clear hS0 hlook c2 x0 x1 hl1 HW1 HB0 HB1 HK1 HP1
 generalize w1.drew=w2 at *
 have hw2:w.heap.size≤w2.heap.size:=HB2.out.size
 go_wp2_with fail
 go_loopg [17,5] K.length (fun g iv ov wx=>∃ (k:Nat) (sv:Sl) (vs:List NdV),g=K.length - k∧k≤K.length∧iv=.int .i64 k∧ov=.slice sv.a sv.n sv.cap∧Hid (Own NdV.cells 6 28 w.heap.size wx sv.val vs)∧Hid (∀ j,sv.val.ownBlock=some j→w2.heap.size≤j)∧Hid (Zc (fun j=>w.heap.size≤j∧sv.val.ownBlock≠some j) wx vs (YS V n K k))∧Hid (Below w2.heap.size w2 wx))
 case atStart=>exact ⟨0,Z2,[],rfl,Nat.zero_le _,rfl,rfl,Lib.hid Own.nil,Jh (fun j h=>by cases h),Lib.hid Zc.nil,Jh (Below.refl _ _)⟩
 case round =>
  obtain ⟨k,sv,vs,hg,hk,rfl,rfl,HO,HSV,HN,HB⟩:=hrel
  have HG:=Lib.hid hg
  have hwz:=HB.out.size
  clear hg
  have hvl:vs.length=(YS V n K k).length:=HN.out.1
  have hpl:=Uj V n K k
  by_cases hlt:k<K.length
  ·obtain ⟨x,hx⟩:∃ x,K[k]?=some x:=⟨_,List.getElem?_eq_getElem hlt⟩
   have hex:=HIN.out x (List.mem_of_getElem? hx)
   have hbw:=HBI.out.below HB.out
   obtain ⟨ba,oa,ca1,e1,hcs⟩:=(HKS.out.below HB.out).dcells (by intro e;rw[e] at hlt;simp at hlt)
   cases e1
   obtain ⟨y0,y1,y2,y3,y4⟩:=hcs k x hx
   have hpl1:=Uj V n K (k+1)
   rw[WY hx] at hpl1
   have HSU:=Jh (WY (V:=V) (n:=n) hx)
   have hp2:=HPS.out.below HB.out
   have hlp:∀ W',Z6 St.val Spn.val W' b.pb ps→(Instr.lookup 102 (.map (some b.pb)) (.agg #[.int .i64 x.block.n,.int .i64 x.block.r]) true).run Tryz.prog W'=.ok (.tuple #[((YD b.l x.block).map Spn.val).getD (.agg #[.int .i64 0,.int .i64 0,.int .i64 0,.int .i64 0]),.bool (YD b.l x.block).isSome]) W':=fun W' hW'=>by
    have:=hW'.lookupOk ZN Sb Z1T x.block
    rw[HPA.out] at this
    exact this
   have c1:=hbw.c1
   obtain ⟨⟨xn,xr⟩,⟨un,ur⟩,xk⟩:=x
   simp only at y0 y1 y2 y3 y4 hlp hex
   have hkk:(k:Int)<(K.length:Int):=by omega
   have hk0:(0:Int)≤(k:Int):=by omega
   clear hx hcs
   go_upto_region 5 with fail
   have hBA:Below wr.heap.size wr (wr.alloc (.cells #[.int .i64 xn,.int .i64 xr,.int .i64 un,.int .i64 ur,.string xk] 53)):=(Below.refl _ _).alloc (Nat.le_refl _) _
   have z0:(wr.alloc (.cells #[.int .i64 xn,.int .i64 xr,.int .i64 un,.int .i64 ur,.string xk] 53)).cell? ⟨wr.heap.size,0,none⟩=some (.int .i64 xn):=by go_simp
   have z1:(wr.alloc (.cells #[.int .i64 xn,.int .i64 xr,.int .i64 un,.int .i64 ur,.string xk] 53)).cell? ⟨wr.heap.size,1,none⟩=some (.int .i64 xr):=by go_simp
   have hza:(wr.alloc (.cells #[.int .i64 xn,.int .i64 xr,.int .i64 un,.int .i64 ur,.string xk] 53)).heap.size=wr.heap.size+1:=by simp
   have c1a:=Z0 hBA c1
   have hpa2:=hp2.below hBA
   have HBA:=Lib.hid hBA
   clear c1 hp2 y0 y1 y2 y3 y4 hBA hbw
   generalize wr.alloc (.cells #[.int .i64 xn,.int .i64 xr,.int .i64 un,.int .i64 ur,.string xk] 53)=w3 at *
   cases hsp:YD b.l ⟨xn,xr⟩ with
   | some s =>
    obtain ⟨sb,slo,shi⟩:=s
    have hblk:sb=⟨xn,xr⟩:=(Z0g hsp).2
    have HONE:Hid (V.one n ⟨xn,xr⟩=[V.nd ⟨xn,xr⟩ (V.row n ⟨xn,xr⟩)]):=Jh (by unfold Vw.one;rw[if_pos];rw[HBI.out.lv,hsp];rfl)
    rw[HONE.out] at hpl1
    have hpl2:(YS V n K k).length+1≤A.length:=by rw[List.length_append,List.length_singleton] at hpl1;omega
    have HND:=Jh (fun (W:World) (hW:BIs W b V)=>HNODE.out ⟨xn,xr⟩ ⟨sb,slo,shi⟩ (m+1) W hW hsp hex (by omega))
    rw[hsp] at hlp
    simp only[Option.map_some,Option.getD_some,Option.isSome_some,Spn.val] at hlp
    have hS0:(fun W:World=>W.cell? ⟨b.bb,1,none⟩=some (.map (some b.pb))∧W.cell? ⟨wr.heap.size,0,none⟩=some (.int .i64 xn)∧W.cell? ⟨wr.heap.size,1,none⟩=some (.int .i64 xr)∧Z6 St.val Spn.val W b.pb ps) w3.drew:=⟨c1a,z0,z1,hpa2.drew⟩
    have hS1:(fun W:World=>W.cell? ⟨b.bb,1,none⟩=some (.map (some b.pb))∧W.cell? ⟨wr.heap.size,0,none⟩=some (.int .i64 xn)∧W.cell? ⟨wr.heap.size,1,none⟩=some (.int .i64 xr)∧Z6 St.val Spn.val W b.pb ps) (w3.drew.alloc (.cells #[.int .i64 0,.int .i64 0,.int .i64 0,.int .i64 0] 109)):=⟨Z1 c1a _,Z1 z0 _,Z1 z1 _,hpa2.drew.alloc _⟩
    refine Zf (fun W:World=>W.cell? ⟨b.bb,1,none⟩=some (.map (some b.pb))∧W.cell? ⟨wr.heap.size,0,none⟩=some (.int .i64 xn)∧W.cell? ⟨wr.heap.size,1,none⟩=some (.int .i64 xr)∧Z6 St.val Spn.val W b.pb ps) (fun i=>i == 12) (by kernel_rfl) ?_
    refine J4 0 22 _ hS0 ?_
    try simp only[Ja]
    refine J4 1 23 _ hS0 ?_
    try simp only[Ja]
    refine J4 2 24 _ hS0 ?_
    try simp only[Ja]
    refine J4 3 25 (.map (some b.pb)) hS0 ?_
    try simp only[Ja]
    refine J4 4 26 _ hS0 ?_
    try simp only[Ja]
    refine J4 5 27 (.agg #[.int .i64 xn,.int .i64 xr]) hS0 ?_
    try simp only[Ja]
    refine JR 6 28 (.tuple #[.agg #[.int .i64 sb.n,.int .i64 sb.r,.int .i64 slo,.int .i64 shi],.bool true]) rfl rfl hS0 (fun W hW=>by obtain ⟨q0,q1,q2,q3⟩:=hW;have q4:=hlp W q3;go_simp;try rfl) ?_
    try simp only[Ja]
    refine J4 7 21 (.tuple #[.agg #[.int .i64 sb.n,.int .i64 sb.r,.int .i64 slo,.int .i64 shi],.bool true]) hS0 ?_
    try simp only[Ja]
    refine J4 8 29 (.agg #[.int .i64 sb.n,.int .i64 sb.r,.int .i64 slo,.int .i64 shi]) hS0 ?_
    try simp only[Ja]
    refine J4 9 30 (.bool true) hS0 ?_
    try simp only[Ja]
    refine Zl (i:=10) (d:=some 8) (v:=.pointer (some ⟨w3.heap.size,0,none⟩)) (w':=w3.drew.alloc (.cells #[.int .i64 0,.int .i64 0,.int .i64 0,.int .i64 0] 109)) (by kernel_rfl) rfl rfl (by rfl) (by go_simp;try rfl) (fun _=>hS1) ?_
    try simp only[Ja]
    have hsb0:SpB (w3.drew.alloc (.cells #[.int .i64 0,.int .i64 0,.int .i64 0,.int .i64 0] 109)) w3.heap.size ⟨0,0⟩ 0 0:=World.alloc_heap_new w3.drew _
    obtain ⟨g0,g1,g2,g3,gf⟩:=hsb0.cells
    have gf0:=gf 0
    have gf1:=gf 1
    have gf2:=gf 2
    have gf3:=gf 3
    have hb5:Below w3.heap.size w3 (((((w3.drew.alloc (.cells #[.int .i64 0,.int .i64 0,.int .i64 0,.int .i64 0] 109)).setCell ⟨w3.heap.size,0,none⟩ (.int .i64 sb.n)).setCell ⟨w3.heap.size,1,none⟩ (.int .i64 sb.r)).setCell ⟨w3.heap.size,2,none⟩ (.int .i64 slo)).setCell ⟨w3.heap.size,3,none⟩ (.int .i64 shi)):=(((((Below.refl _ _).drew.alloc (Nat.le_refl _) _).setCell (p:=⟨w3.heap.size,0,none⟩) (Nat.le_refl _) _).setCell (p:=⟨w3.heap.size,1,none⟩) (Nat.le_refl _) _).setCell (p:=⟨w3.heap.size,2,none⟩) (Nat.le_refl _) _).setCell (p:=⟨w3.heap.size,3,none⟩) (Nat.le_refl _) _
    have hS5:(fun W:World=>W.cell? ⟨b.bb,1,none⟩=some (.map (some b.pb))∧W.cell? ⟨wr.heap.size,0,none⟩=some (.int .i64 xn)∧W.cell? ⟨wr.heap.size,1,none⟩=some (.int .i64 xr)∧Z6 St.val Spn.val W b.pb ps) (((((w3.drew.alloc (.cells #[.int .i64 0,.int .i64 0,.int .i64 0,.int .i64 0] 109)).setCell ⟨w3.heap.size,0,none⟩ (.int .i64 sb.n)).setCell ⟨w3.heap.size,1,none⟩ (.int .i64 sb.r)).setCell ⟨w3.heap.size,2,none⟩ (.int .i64 slo)).setCell ⟨w3.heap.size,3,none⟩ (.int .i64 shi)):=⟨Z0 hb5 c1a,Z0 hb5 z0,Z0 hb5 z1,hpa2.below hb5⟩
    refine Zh (i:=11) (d:=none) (w':=((((w3.drew.alloc (.cells #[.int .i64 0,.int .i64 0,.int .i64 0,.int .i64 0] 109)).setCell ⟨w3.heap.size,0,none⟩ (.int .i64 sb.n)).setCell ⟨w3.heap.size,1,none⟩ (.int .i64 sb.r)).setCell ⟨w3.heap.size,2,none⟩ (.int .i64 slo)).setCell ⟨w3.heap.size,3,none⟩ (.int .i64 shi)) (by kernel_rfl) rfl rfl (by rfl) (by go_simp;try rfl) (fun _=>hS5) ?_
    try simp only[Ja]
    refine Zl (i:=12) (d:=some 9) (v:=.bool true) (w':=((((w3.drew.alloc (.cells #[.int .i64 0,.int .i64 0,.int .i64 0,.int .i64 0] 109)).setCell ⟨w3.heap.size,0,none⟩ (.int .i64 sb.n)).setCell ⟨w3.heap.size,1,none⟩ (.int .i64 sb.r)).setCell ⟨w3.heap.size,2,none⟩ (.int .i64 slo)).setCell ⟨w3.heap.size,3,none⟩ (.int .i64 shi)) (by kernel_rfl) rfl rfl (by rfl) (by go_simp;try rfl) (fun h=>by cases h) ?_
    try simp only[Ja]
    refine Zd (by kernel_rfl) ?_ _
    have hsb:=hsb0.set sb.n (sb.r:Int) (slo:Int) (shi:Int)
    have HSB:=Lib.hid hsb
    have HB5:=Jh (HBA.out.trans (hb5.mono HBA.out.size))
    have t0:=Z0 hb5 z0
    have t1:=Z0 hb5 z1
    have hz5:=HB5.out.size
    have hza2:wr.heap.size<w3.heap.size:=by omega
    clear hza hS5 hS0 hS1 hsb0 g0 g1 g2 g3 gf gf0 gf1 gf2 gf3 hsb hb5 c1a hpa2 hlp z0 z1 HBA
    generalize ((((w3.drew.alloc (.cells #[.int .i64 0,.int .i64 0,.int .i64 0,.int .i64 0] 109)).setCell ⟨w3.heap.size,0,none⟩ (.int .i64 sb.n)).setCell ⟨w3.heap.size,1,none⟩ (.int .i64 sb.r)).setCell ⟨w3.heap.size,2,none⟩ (.int .i64 slo)).setCell ⟨w3.heap.size,3,none⟩ (.int .i64 shi)=w5 at *
    have HBI5:=Jh ((HBI.out.below HB.out).below HB5.out)
    have HO5:=Jh (HO.out.ext (Ext.of_below (S:=fun _=>False) HB5.out) (fun _ _ f=>f))
    have HN5:=Jh (HN.out.below HB5.out)
    have HBW:=Jh (HB.out.trans (HB5.out.mono HB.out.size))
    have hsvb:∀ j,sv.val.ownBlock=some j→j<wr.heap.size:=fun j hj=>(HO.out.blk j hj).2
    clear HB5 HO HN HB
    obtain ⟨g0,g1,g2,g3,-⟩:=HSB.out.cells
    rw[hblk] at g0 g1
    simp only at g0 g1
    go_wp2_with fail
    refine (HND.out _ HBI5.out).mono ?_
    rintro e w6 ⟨x,rfl,hx6,b6⟩
    have hO6:=HO5.out.ext (Ext.of_below (S:=fun _=>False) b6) (fun _ _ f=>f)
    have HN6:=Jh (HN5.out.below b6)
    have HB6:=Jh (HBW.out.trans (b6.mono HBW.out.size))
    have hz6:=b6.size
    have HX6:=Lib.hid hx6
    have HO6:=Lib.hid hO6
    have hvl6:vs.length+1≤A.length:=by omega
    clear b6 hx6 g0 g1 g2 g3 HND HBI5 HO5 HN5 HBW HSB t0 t1
    go_wp2_with (at_builtin;refine Zn rfl _ _ _ rfl i0 (.agg #[.int .i64 0,.int .i64 0,.string ⟨#[]⟩,.slice none 0 0,.slice none 0 0,.slice none 0 0]) 104 YN hi hz0 hz1' hz2 rfl (by omega) NdV.len NdV.one rfl (hO6.alloc _) x w6.heap.size 1 rfl ?_ (by unfold maxLen;omega) (by omega) (by simp;omega) ?_)
    ·intro j u hj
     match j,hj with
     | 0,hj=>simp[NdV.cells] at hj;subst hj;go_simp
     | 1,hj=>simp[NdV.cells] at hj;subst hj;go_simp
     | 2,hj=>simp[NdV.cells] at hj;subst hj;go_simp
     | 3,hj=>simp[NdV.cells] at hj;subst hj;go_simp
     | 4,hj=>simp[NdV.cells] at hj;subst hj;go_simp
     | 5,hj=>simp[NdV.cells] at hj;subst hj;go_simp
     | n+6,hj=>simp[NdV.cells] at hj
    ·intro v8 w8 hown8 hx8 hfr8
     obtain ⟨g8,n8,c8,rfl⟩:∃ g8 n8 c8,v8=.slice g8 n8 c8:=by
      rcases hown8.eq_slice with ⟨e,_⟩|⟨g,c,e,_⟩
      ·exact ⟨_,_,_,e⟩
      ·exact ⟨_,_,_,e⟩
     have hxs8:=hx8.size
     try rw[World.size_alloc] at hxs8
     have hown9:∀ j,sv.val.ownBlock=some j→w2.heap.size≤j:=HSV.out
     have HN8:Hid (Zc (fun j=>w.heap.size≤j∧(Value.slice g8 n8 c8).ownBlock≠some j) w8 (vs++[x]) (YS V n K (k+1))):=Jh (by
      rw[HSU.out,HONE.out]
      refine Zc.append ?_ ?_
      ·refine ((HN6.out.ext ((Ext.refl (fun _=>False) _).alloc _) (fun _ _ _ f=>f)).monoL (D':=fun j=>w.heap.size≤j∧(Value.slice g8 n8 c8).ownBlock≠some j∧sv.val.ownBlock≠some j) (fun j hj hl=>⟨hj.1,fun e=>?_,hj.2⟩)).ext hx8 (fun j hj _=>hj.2.2) |>.mono (fun j hj=>⟨hj.1,hj.2.1⟩)
       rcases hfr8 j e with h|h
       ·exact hj.2 h
       ·rw[World.size_alloc] at hl;omega
      ·refine (((Zc.one HX6.out).ext ((Ext.refl (fun _=>False) _).alloc _) (fun _ _ _ f=>f)).monoL (D':=fun j=>w.heap.size≤j∧(Value.slice g8 n8 c8).ownBlock≠some j∧sv.val.ownBlock≠some j) (fun j hj hl=>⟨by omega,fun e=>?_,fun e=>?_⟩)).ext hx8 (fun j hj _=>hj.2.2) |>.mono (fun j hj=>⟨hj.1,hj.2.1⟩)
       ·rcases hfr8 j e with h|h
        ·have:=hsvb j h;omega
        ·first|omega|(rw[World.size_alloc] at hl;omega)|(have:=hl;omega)
       ·have:=hsvb j e;omega)
     have HB8:=Jh (Ext.new (B:=w2.heap.size) (HB6.out.alloc (by omega) _) hx8 (fun j hj _ e=>by have:=hown9 j e;omega) (by simp;omega))
     have HSV8:Hid (∀ j,(Sl.mk g8 n8 c8).val.ownBlock=some j→w2.heap.size≤j):=Jh (fun j hj=>by rcases hfr8 j hj with h|h;exact hown9 j h;omega)
     have HO8:=Lib.hid hown8
     clear hown8 hx8 hfr8 HN6 HO6 HB6
     go_wp2_with fail
     go_roundg (K.length - (k+1))
     case measure=>rw[HG.out];omega
     case rel=>exact ⟨k+1,⟨g8,n8,c8⟩,_,rfl,hlt,by go_num,rfl,HO8,HSV8,HN8,HB8⟩
   | none =>
    have HONE:Hid (V.one n ⟨xn,xr⟩=V.row n ⟨xn,xr⟩):=Jh (by unfold Vw.one;rw[if_neg];rw[HBI.out.lv,hsp];simp)
    rw[HONE.out,List.length_append] at hpl1
    have HND:=Jh (fun (W:World) (hW:BIs W b V)=>HRW.out ⟨xn,xr⟩ (m+1) W hW hex (by omega))
    rw[hsp] at hlp
    simp only[Option.map_none,Option.getD_none,Option.isSome_none] at hlp
    have hS0:(fun W:World=>W.cell? ⟨b.bb,1,none⟩=some (.map (some b.pb))∧W.cell? ⟨wr.heap.size,0,none⟩=some (.int .i64 xn)∧W.cell? ⟨wr.heap.size,1,none⟩=some (.int .i64 xr)∧Z6 St.val Spn.val W b.pb ps) w3.drew:=⟨c1a,z0,z1,hpa2.drew⟩
    have hS1:(fun W:World=>W.cell? ⟨b.bb,1,none⟩=some (.map (some b.pb))∧W.cell? ⟨wr.heap.size,0,none⟩=some (.int .i64 xn)∧W.cell? ⟨wr.heap.size,1,none⟩=some (.int .i64 xr)∧Z6 St.val Spn.val W b.pb ps) (w3.drew.alloc (.cells #[.int .i64 0,.int .i64 0,.int .i64 0,.int .i64 0] 109)):=⟨Z1 c1a _,Z1 z0 _,Z1 z1 _,hpa2.drew.alloc _⟩
    refine Zf (fun W:World=>W.cell? ⟨b.bb,1,none⟩=some (.map (some b.pb))∧W.cell? ⟨wr.heap.size,0,none⟩=some (.int .i64 xn)∧W.cell? ⟨wr.heap.size,1,none⟩=some (.int .i64 xr)∧Z6 St.val Spn.val W b.pb ps) (fun i=>i == 12) (by kernel_rfl) ?_
    refine J4 0 22 _ hS0 ?_
    try simp only[Ja]
    refine J4 1 23 _ hS0 ?_
    try simp only[Ja]
    refine J4 2 24 _ hS0 ?_
    try simp only[Ja]
    refine J4 3 25 (.map (some b.pb)) hS0 ?_
    try simp only[Ja]
    refine J4 4 26 _ hS0 ?_
    try simp only[Ja]
    refine J4 5 27 (.agg #[.int .i64 xn,.int .i64 xr]) hS0 ?_
    try simp only[Ja]
    refine JR 6 28 (.tuple #[.agg #[.int .i64 0,.int .i64 0,.int .i64 0,.int .i64 0],.bool false]) rfl rfl hS0 (fun W hW=>by obtain ⟨q0,q1,q2,q3⟩:=hW;have q4:=hlp W q3;go_simp;try rfl) ?_
    try simp only[Ja]
    refine J4 7 21 (.tuple #[.agg #[.int .i64 0,.int .i64 0,.int .i64 0,.int .i64 0],.bool false]) hS0 ?_
    try simp only[Ja]
    refine J4 8 29 (.agg #[.int .i64 0,.int .i64 0,.int .i64 0,.int .i64 0]) hS0 ?_
    try simp only[Ja]
    refine J4 9 30 (.bool false) hS0 ?_
    try simp only[Ja]
    refine Zl (i:=10) (d:=some 8) (v:=.pointer (some ⟨w3.heap.size,0,none⟩)) (w':=w3.drew.alloc (.cells #[.int .i64 0,.int .i64 0,.int .i64 0,.int .i64 0] 109)) (by kernel_rfl) rfl rfl (by rfl) (by go_simp;try rfl) (fun _=>hS1) ?_
    try simp only[Ja]
    have hsb0:SpB (w3.drew.alloc (.cells #[.int .i64 0,.int .i64 0,.int .i64 0,.int .i64 0] 109)) w3.heap.size ⟨0,0⟩ 0 0:=World.alloc_heap_new w3.drew _
    obtain ⟨g0,g1,g2,g3,gf⟩:=hsb0.cells
    have gf0:=gf 0
    have gf1:=gf 1
    have gf2:=gf 2
    have gf3:=gf 3
    have hb5:Below w3.heap.size w3 (((((w3.drew.alloc (.cells #[.int .i64 0,.int .i64 0,.int .i64 0,.int .i64 0] 109)).setCell ⟨w3.heap.size,0,none⟩ (.int .i64 0)).setCell ⟨w3.heap.size,1,none⟩ (.int .i64 0)).setCell ⟨w3.heap.size,2,none⟩ (.int .i64 0)).setCell ⟨w3.heap.size,3,none⟩ (.int .i64 0)):=(((((Below.refl _ _).drew.alloc (Nat.le_refl _) _).setCell (p:=⟨w3.heap.size,0,none⟩) (Nat.le_refl _) _).setCell (p:=⟨w3.heap.size,1,none⟩) (Nat.le_refl _) _).setCell (p:=⟨w3.heap.size,2,none⟩) (Nat.le_refl _) _).setCell (p:=⟨w3.heap.size,3,none⟩) (Nat.le_refl _) _
    have hS5:(fun W:World=>W.cell? ⟨b.bb,1,none⟩=some (.map (some b.pb))∧W.cell? ⟨wr.heap.size,0,none⟩=some (.int .i64 xn)∧W.cell? ⟨wr.heap.size,1,none⟩=some (.int .i64 xr)∧Z6 St.val Spn.val W b.pb ps) (((((w3.drew.alloc (.cells #[.int .i64 0,.int .i64 0,.int .i64 0,.int .i64 0] 109)).setCell ⟨w3.heap.size,0,none⟩ (.int .i64 0)).setCell ⟨w3.heap.size,1,none⟩ (.int .i64 0)).setCell ⟨w3.heap.size,2,none⟩ (.int .i64 0)).setCell ⟨w3.heap.size,3,none⟩ (.int .i64 0)):=⟨Z0 hb5 c1a,Z0 hb5 z0,Z0 hb5 z1,hpa2.below hb5⟩
    refine Zh (i:=11) (d:=none) (w':=((((w3.drew.alloc (.cells #[.int .i64 0,.int .i64 0,.int .i64 0,.int .i64 0] 109)).setCell ⟨w3.heap.size,0,none⟩ (.int .i64 0)).setCell ⟨w3.heap.size,1,none⟩ (.int .i64 0)).setCell ⟨w3.heap.size,2,none⟩ (.int .i64 0)).setCell ⟨w3.heap.size,3,none⟩ (.int .i64 0)) (by kernel_rfl) rfl rfl (by rfl) (by go_simp;try rfl) (fun _=>hS5) ?_
    try simp only[Ja]
    refine Zl (i:=12) (d:=some 9) (v:=.bool false) (w':=((((w3.drew.alloc (.cells #[.int .i64 0,.int .i64 0,.int .i64 0,.int .i64 0] 109)).setCell ⟨w3.heap.size,0,none⟩ (.int .i64 0)).setCell ⟨w3.heap.size,1,none⟩ (.int .i64 0)).setCell ⟨w3.heap.size,2,none⟩ (.int .i64 0)).setCell ⟨w3.heap.size,3,none⟩ (.int .i64 0)) (by kernel_rfl) rfl rfl (by rfl) (by go_simp;try rfl) (fun h=>by cases h) ?_
    try simp only[Ja]
    refine Zd (by kernel_rfl) ?_ _
    have hsb:=hsb0.set (0:Int) (0:Int) (0:Int) (0:Int)
    have HSB:=Lib.hid hsb
    have HB5:=Jh (HBA.out.trans (hb5.mono HBA.out.size))
    have t0:=Z0 hb5 z0
    have t1:=Z0 hb5 z1
    have hz5:=HB5.out.size
    have hza2:wr.heap.size<w3.heap.size:=by omega
    clear hza hS5 hS0 hS1 hsb0 g0 g1 g2 g3 gf gf0 gf1 gf2 gf3 hsb hb5 c1a hpa2 hlp z0 z1 HBA
    generalize ((((w3.drew.alloc (.cells #[.int .i64 0,.int .i64 0,.int .i64 0,.int .i64 0] 109)).setCell ⟨w3.heap.size,0,none⟩ (.int .i64 0)).setCell ⟨w3.heap.size,1,none⟩ (.int .i64 0)).setCell ⟨w3.heap.size,2,none⟩ (.int .i64 0)).setCell ⟨w3.heap.size,3,none⟩ (.int .i64 0)=w5 at *
    have HBI5:=Jh ((HBI.out.below HB.out).below HB5.out)
    have HO5:=Jh (HO.out.ext (Ext.of_below (S:=fun _=>False) HB5.out) (fun _ _ f=>f))
    have HN5:=Jh (HN.out.below HB5.out)
    have HBW:=Jh (HB.out.trans (HB5.out.mono HB.out.size))
    have hsvb:∀ j,sv.val.ownBlock=some j→j<wr.heap.size:=fun j hj=>(HO.out.blk j hj).2
    clear HB5 HO HN HB
    go_wp2_with fail
    refine (HND.out _ HBI5.out).mono ?_
    rintro e w6 ⟨v6,vs6,rfl,hown6,hx6,b6⟩
    have hO6:=HO5.out.ext (Ext.of_below (S:=fun _=>False) b6) (fun _ _ f=>f)
    have HN6:=Jh (HN5.out.below b6)
    have HB6:=Jh (HBW.out.trans (b6.mono HBW.out.size))
    have hz6:=b6.size
    have HX6:=Lib.hid hx6
    have HO6:=Lib.hid hO6
    have hvl6:vs.length+vs6.length≤A.length:=by have:=hx6.1;omega
    obtain ⟨⟨ga,gn,gc⟩,rfl⟩:∃ s:Sl,v6=.slice s.a s.n s.cap:=by
     rcases hown6.eq_slice with ⟨e,_⟩|⟨g,c,e,_⟩
     ·exact ⟨Z2,e⟩
     ·exact ⟨⟨_,_,_⟩,e⟩
    obtain ⟨v8,w8,hr8,hown8,hx8,hfr8⟩:=XF (P:=Tryz.prog) 26 26 i0 (.agg #[.int .i64 0,.int .i64 0,.string ⟨#[]⟩,.slice none 0 0,.slice none 0 0,.slice none 0 0]) 104 YN hi hz0 hz1' hz2 rfl (by omega) NdV.len NdV.one hO6 hown6 (by unfold maxLen;omega) (by omega) (by omega)
    obtain ⟨g8,n8,c8,rfl⟩:∃ g8 n8 c8,v8=.slice g8 n8 c8:=by
     rcases hown8.eq_slice with ⟨e,_⟩|⟨g,c,e,_⟩
     ·exact ⟨_,_,_,e⟩
     ·exact ⟨_,_,_,e⟩
    have hxs8:=hx8.size
    simp only[Sl.val] at hr8
    clear b6 hx6 hown6 HND HBI5 HO5 HN5 HBW HSB t0 t1 hO6
    have hown9:∀ j,sv.val.ownBlock=some j→w2.heap.size≤j:=HSV.out
    go_wp2_with (at_builtin;refine Lib.wpList_append_run _ rfl _ _ _ _ rfl _ _ rfl rfl _ _ hr8 ?_)
    have HN8:Hid (Zc (fun j=>w.heap.size≤j∧(Value.slice g8 n8 c8).ownBlock≠some j) w8 (vs++vs6) (YS V n K (k+1))):=Jh (by
     rw[HSU.out,HONE.out]
     refine Zc.append ?_ ?_
     ·refine ((HN6.out.mono (fun _ h=>h)).monoL (D':=fun j=>w.heap.size≤j∧(Value.slice g8 n8 c8).ownBlock≠some j∧sv.val.ownBlock≠some j) (fun j hj hl=>⟨hj.1,fun e=>?_,hj.2⟩)).ext hx8 (fun j hj _=>hj.2.2) |>.mono (fun j hj=>⟨hj.1,hj.2.1⟩)
      rcases hfr8 j e with h|h
      ·exact hj.2 h
      ·have:=hl;omega
     ·refine ((HX6.out).monoL (D':=fun j=>w.heap.size≤j∧(Value.slice g8 n8 c8).ownBlock≠some j∧sv.val.ownBlock≠some j) (fun j hj hl=>⟨by omega,fun e=>?_,fun e=>?_⟩)).ext hx8 (fun j hj _=>hj.2.2) |>.mono (fun j hj=>⟨hj.1,hj.2.1⟩)
      ·rcases hfr8 j e with h|h
       ·have:=hsvb j h;omega
       ·first|omega|(rw[World.size_alloc] at hl;omega)|(have:=hl;omega)
      ·have:=hsvb j e;omega)
    have HB8:=Jh (Ext.new (B:=w2.heap.size) HB6.out hx8 (fun j hj _ e=>by have:=hown9 j e;omega) (by omega))
    have HSV8:Hid (∀ j,(Sl.mk g8 n8 c8).val.ownBlock=some j→w2.heap.size≤j):=Jh (fun j hj=>by rcases hfr8 j hj with h|h;exact hown9 j h;omega)
    have HO8:=Lib.hid hown8
    clear hown8 hx8 hfr8 HN6 HO6 HB6
    go_wp2_with fail
    go_roundg (K.length - (k+1))
    case measure=>rw[HG.out];omega
    case rel=>exact ⟨k+1,⟨g8,n8,c8⟩,_,rfl,hlt,by go_num,rfl,HO8,HSV8,HN8,HB8⟩
  ·obtain rfl:k=K.length:=by omega
   have hkk:¬ (K.length:Int)<(K.length:Int):=by omega
   have HFIN:Hid (Vq V (n+1) u w (.returned (.slice sv.a sv.n sv.cap)) wr):=Lib.hid ⟨_,vs,rfl,HO.out,by rw[HROW.out];have:=HN.out;unfold YS at this;rw[List.take_length] at this;exact this,HB2.out.trans (HB.out.mono hw2)⟩
   clear hlt hk HO HN HB
   go_wp2_with fail
   go_ret
   exact HFIN.out
end Go.Proofs.YtlgipkemoldckaaGreatDoor
