/- OplogAnew, part 14 of what the proof leans on (made short by a program). -/
import Derived.Test.YtgmdimbiipemhaaGreatDoorAnZ13
import Derived.LaidMore
import Derived.Lay
import Derived.Test.YtgmdimbiipemhaaGreatDoorTie
import Derived.Test.YtgmdimbiipemhaaGreatDoorCards
set_option linter.unusedSimpArgs false
set_option linter.unusedVariables false
set_option linter.unusedSectionVars false
set_option maxRecDepth 20000
set_option maxHeartbeats 30000000
namespace Go.Proofs.YtgmdimbiipemhaaGreatDoor
open Go.RowKit Go.Deep
theorem Z2Z (v:Value) (l:List OpD) (w:World) (h:Z0 OpD.cells 26 w v l) (hwf:∀ x∈l,x.wf) (hn:l.length≤1000000):Calls Tryz.prog 61 #[v] w fun e w'=>Z12 w l e w':=by
 obtain ⟨a,cap,rfl,hcap,hmax,-⟩:=id h
 unfold maxLen at hmax
 have HH:=Lib.hid h
 have HWF:=Lib.hid hwf
 clear h hwf
 by_cases hbig:200<l.length
 ·have hb1:(200:Int)<(l.length:Int):=by omega
  go_enter Tryz.func61,Tryz.ntmps61
  go_wp2_with fail
  go_ret2
  exact .inr (.inl ⟨hbig,rfl,Below.refl _ _⟩)
 have hb1:¬ (200:Int)<(l.length:Int):=by omega
 go_enter Tryz.func61,Tryz.ntmps61
 go_wp2_with fail
 go_loopg [4] l.length (fun g kv wx=>∃ k:Nat,g=l.length - k∧kv=.int .i64 k∧k≤l.length∧Hid ((∀ x∈l.take k,x.right=true)∧Below w.heap.size w wx))
 case atStart=>exact ⟨0,rfl,rfl,Nat.zero_le _,Lib.hid ⟨fun x hx=>by simp at hx,Below.refl _ _⟩⟩
 case round =>
  obtain ⟨k,hg,rfl,hk,HR⟩:=hrel
  have HG:=Lib.hid hg
  clear hg
  by_cases hlt:k<l.length
  ·have hk1:(k:Int)<(l.length:Int):=by omega
   have hk0:(0:Int)≤(k:Int):=by omega
   obtain ⟨x,hx⟩:∃ x,l[k]?=some x:=⟨_,List.getElem?_eq_getElem hlt⟩
   have hsl:=HH.out.below HR.out.2
   obtain ⟨b0,o0,rfl⟩:=hsl.some8 (by rintro rfl;simp at hlt)
   have HLD:=Jh (Xc hsl hx)
   have HX:=Lib.hid hx
   have HFT:Hid x.fits:=Jh (HWF.out x (List.mem_of_getElem? hx)).1
   clear hsl hx
   go_wp2_with ((with_reducible_and_instances refine Z9 (o:=⟨some 18,_,_,_,_,_⟩) (v:=.agg x.cells.toArray) ?_ ?_ ?_);rfl;exact Z8 rfl rfl HLD.out)
   refine (Z3N x _ HFT.out).mono ?_
   rintro e w3 ⟨rfl,b3⟩
   have HB3:Hid (Below w.heap.size w w3):=Jh (HR.out.2.trans (b3.mono HR.out.2.size))
   clear b3 HLD
   cases hr:x.right with
   | false =>
    have HBAD:Hid (∃ x∈l,x.right=false):=Lib.hid ⟨x,List.mem_of_getElem? HX.out,hr⟩
    clear hr
    go_wp2_with fail
    go_ret2
    exact .inr (.inr ⟨by omega,HBAD.out,rfl,HB3.out⟩)
   | true =>
    have HN:Hid ((∀ y∈l.take (k+1),y.right=true)∧Below w.heap.size w w3):=Lib.hid ⟨fun y hy=>by
     rw[List.take_add_one,HX.out,Option.toList_some] at hy
     rcases List.mem_append.1 hy with hy|hy
     ·exact HR.out.1 y hy
     ·rw[List.mem_singleton.1 hy];exact hr,HB3.out⟩
    clear hr HR HB3
    go_wp2_with fail
    go_roundg (l.length - (k+1))
    case measure=>rw[HG.out];omega
    case rel=>exact ⟨k+1,rfl,by simp,by omega,HN⟩
  ·obtain rfl:k=l.length:=by omega
   have hk1:¬ (l.length:Int)<(l.length:Int):=by omega
   have HALL:Hid (∀ x∈l,x.right=true):=Jh (by have:=HR.out.1;rwa [List.take_length] at this)
   have HB:Hid (Below w.heap.size w wr):=Lib.hid HR.out.2
   clear hlt HR hk
   go_wp2_with fail
   refine (Z6E _ l _ (HH.out.below HB.out) HWF.out (by omega) HALL.out).mono ?_
   rintro e w5 ⟨v5,rfl,ho5,hb5⟩
   have HZ:Hid (Own u8c 1 5 w.heap.size w5 v5 (Xm l)∧Below w.heap.size w w5):=Lib.hid ⟨ho5.mono HB.out.size,HB.out.trans (hb5.mono HB.out.size)⟩
   clear ho5 hb5
   obtain ⟨⟨qa,qn,qc⟩,eq⟩:=HZ.out.1.sl
   dsimp only at eq
   subst eq
   go_wp2_with fail
   go_ret2
   exact .inl ⟨by omega,HALL.out,_,rfl,HZ.out.1,HZ.out.2⟩
theorem Z47 (o:OpD) {f g:Nat→Int} (h:∀ c,c<21→f c=g c):o.withF f=o.withF g:=by
 unfold OpD.withF
 rw[h 0 (by omega),h 1 (by omega),h 2 (by omega),h 3 (by omega),h 4 (by omega),h 5 (by omega),h 6 (by omega),h 7 (by omega),h 8 (by omega),h 9 (by omega),h 10 (by omega),h 11 (by omega),h 12 (by omega),h 13 (by omega),h 14 (by omega),h 15 (by omega),h 16 (by omega),h 17 (by omega),h 18 (by omega),h 19 (by omega),h 20 (by omega)]
def Zy (n:Nat) (L:List (List Int)):List OpD:=Xi L n (List.replicate n zOp)
theorem ZR (n:Nat) (L:List (List Int)):(Zy n L).length=n:=by unfold Zy;rw[U6,List.length_replicate]
theorem UX {n i:Nat} (L:List (List Int)) (hi:i<n):(Zy n L)[i]?=some (zOp.withF (WV L i)):=by
 unfold Zy
 rw[Z5t,VA _ hi,List.getElem?_replicate_of_lt hi]
 rfl
theorem Z6Z (n:Nat):Zy n []=List.replicate n zOp:=by
 apply List.ext_getElem?
 intro i
 by_cases hi:i<n
 ·rw[UX _ hi,List.getElem?_replicate_of_lt hi]
  rfl
 ·rw[List.getElem?_eq_none (by rw[ZR];omega),List.getElem?_eq_none (by rw[List.length_replicate];omega)]
theorem QB {n i:Nat} {L:List (List Int)} {V:List Int} {y:Int} (hi:i<n) (hy:V[i]?=some y) (hL:L.length<21):(Zy n (L++[V]))[i]?=some ((zOp.withF (WV L i)).putF L.length y):=by
 rw[UX _ hi]
 congr 1
 unfold OpD.putF
 rw[show ∀ f g,(zOp.withF f).withF g=zOp.withF g from fun _ _=>rfl]
 refine Z47 zOp fun c hc=>?_
 unfold WV
 by_cases e:c=L.length
 ·subst e
  rw[if_pos rfl,Z25,List.getD_eq_getElem?_getD,hy]
  rfl
 ·rw[if_neg e]
  rw[Z1V _ _ hc]
  by_cases h:c<L.length
  ·rw[Z28 _ _ _ h]
  ·have e1:(L++[V]).getD c []=[]:=by rw[List.getD_eq_getElem?_getD,List.getElem?_eq_none (by simp;omega)];rfl
   have e2:L.getD c []=[]:=by rw[List.getD_eq_getElem?_getD,List.getElem?_eq_none (by omega)];rfl
   rw[e1,e2]
def X7 {α:Type} (a b:List α) (i:Nat):List α:=a.take i++b.drop i
theorem Rc {α:Type} (a b:List α):X7 a b 0=b:=by simp[X7]
theorem Qo {α:Type} {a b:List α} (h:a.length=b.length) {i:Nat} (hi:i≤b.length):(X7 a b i).length=b.length:=by simp[X7];omega
theorem Qu {α:Type} {a b:List α} (h:a.length=b.length):X7 a b b.length=a:=by simp[X7,←h]
theorem Z1e {α:Type} {a b:List α} (h:a.length=b.length) {i:Nat} {x:α} (hx:b[i]?=some x):(X7 a b i)[i]?=some x:=by
 have hi:=(List.getElem?_eq_some_iff.1 hx).1
 unfold X7
 rw[List.getElem?_append_right (by simp;omega),List.length_take,Nat.min_eq_left (by omega),Nat.sub_self,List.getElem?_drop]
 exact hx
theorem SW {α:Type} {a b:List α} (h:a.length=b.length) {i:Nat} {x:α} (hx:a[i]?=some x):(X7 a b i).set i x=X7 a b (i+1):=by
 have hi:=(List.getElem?_eq_some_iff.1 hx).1
 unfold X7
 rw[List.set_append_right _ _ (by simp;omega),List.length_take,Nat.min_eq_left (by omega),Nat.sub_self,List.take_add_one,hx,Option.toList_some,List.append_assoc]
 congr 1
 have:b.drop i=b[i] :: b.drop (i+1):=List.drop_eq_getElem_cons (by omega)
 rw[this]
 rfl
theorem Rh {base g cap n:Nat} {W:World} {l:List OpD} (h:Own OpD.cells 26 68 base W (.slice (some ⟨g,0,none⟩) n cap) l) (hn:l.length=n) {i:Nat} (hi:i<n) (x:OpD) :
  ∃ W',(Instr.storeAt 68 (.pointer (some ⟨g,i*26,none⟩)) (.agg x.cells.toArray)).run Tryz.prog W=.ok () W'∧Own OpD.cells 26 68 base W' (.slice (some ⟨g,0,none⟩) n cap) (l.set i x)∧Ext (·=g) W W':=by
 subst hn
 haveI:Inhabited OpD:=⟨zOp⟩
 obtain ⟨hs,hb,hc,hm⟩:=h.slab OpD.len
 obtain ⟨W',h1,h2,h3⟩:=hs.store OpD.len OpD.one XO hi x
 refine ⟨W',h1,?_,h3⟩
 have h4:=h2.own OpD.len (by omega) hb hc hm
 have e:(List.range l.length).map (upd (fun i=>l[i]!) i x)=l.set i x:=by
  apply List.ext_getElem?
  intro j
  by_cases hj:j<l.length
  ·rw[List.getElem?_map,List.getElem?_range hj,Option.map_some,List.getElem?_set]
   by_cases e:i=j
   ·subst e
    rw[if_pos rfl,if_pos hj,Z2R]
   ·rw[if_neg e,Z1j _ _ (Ne.symm e),List.getElem?_eq_getElem hj,getElem!_pos l j hj]
  ·rw[List.getElem?_eq_none (by simp;omega),List.getElem?_eq_none (by simp;omega)]
 rw[e] at h4
 exact h4
theorem QE {α β:Type} {ea:α→List Value} {q:Nat} {t:TypeId} {base base2 g:Nat} {W W':World} {v v2:Value} {m:List α} {eb:β→List Value} {q2:Nat} {t2:TypeId} {l:List β} (h:Own ea q t base W v m) (h2:Own eb q2 t2 base2 W v2 l) (ht:t≠t2) (hg:v2.ownBlock=some g) (hx:Ext (·=g) W W'):Own ea q t base W' v m :=
 h.ext hx (fun b hb e=>by
  obtain ⟨c1,g1⟩:=h.tag hb
  obtain ⟨c2,g2⟩:=h2.tag hg
  rw[e,g2] at g1
  cases g1
  exact ht rfl)
theorem Z3m (v:Value) (b:List UInt8) (w:World) (h:Z0 u8c 1 w v b):Calls Tryz.prog 15 #[v] w fun e w'=>RC w b e w':=by
 obtain ⟨a,cap,rfl,hcap,hmax,-⟩:=id h
 unfold maxLen at hmax
 have HH:=Lib.hid h
 clear h
 cases hv:ZA b with
 | none =>
  have hR:=Yq (VO.1 hv)
  have HBAD:=Jh (Z0u hv)
  clear hv
  go_enter Tryz.func15,Tryz.ntmps15
  go_wp2_with fail
  refine (XV _ b _ HH.out).mono ?_
  rintro e w5 ⟨rfl,b5⟩
  have HB5:=Lib.hid b5
  rw[hR]
  clear hR b5
  go_wp2_with fail
  go_ret2
  exact .inr ⟨HBAD.out,rfl,HB5.out⟩
 | some n =>
  have hR:=XT (Zz.1 hv)
  have HV:=Lib.hid hv
  have hpb:(Z5 n).length≤b.length:=(Zz.1 hv).2.length_le
  clear hv
  by_cases hbig:200<n
  ·have hb1:(200:Int)<(n:Int):=by omega
   have HBAD:=Jh (Z04 HV.out hbig)
   go_enter Tryz.func15,Tryz.ntmps15
   go_wp2_with fail
   refine (XV _ b _ HH.out).mono ?_
   rintro e w5 ⟨rfl,b5⟩
   have HB5:=Lib.hid b5
   rw[hR]
   clear hR b5
   go_wp2_with fail
   go_ret2
   exact .inr ⟨HBAD.out,rfl,HB5.out⟩
  ·have hb1:¬ (200:Int)<(n:Int):=by omega
   obtain ⟨i0,hi,hy0,hy1,hy2⟩:=info_parts TY
   have hmk:∀ W:World,(Instr.makeSlice 24 (.int .u64 (n:Int)) (.int .u64 (n:Int))).run Tryz.prog W=.ok (.slice (some ⟨W.heap.size,0,none⟩) n n) (W.alloc (.cells (madeCells zOp.cells.toArray (n*26)) 68)):=fun W=>by
    have h:=run_make (P:=Tryz.prog) W 24 68 i0 _ Tryz.underlying24 hi hy0 .u64 .u64 (n:Int) (n:Int) (by omega) (by omega) (by rw[hy2];omega) (by omega)
    rw[hy1,Int.toNat_natCast] at h
    exact h
   clear hi hy0 hy1 hy2
   obtain ⟨q0,hq0⟩:=Je ((Z5 n).length)
   rw[hq0] at hR hpb
   go_enter Tryz.func15,Tryz.ntmps15
   go_wp2_with fail
   refine (XV _ b _ HH.out).mono ?_
   rintro e w5 ⟨rfl,b5⟩
   rw[hR]
   clear hR
   go_upto_region 5 with fail
   have ho5:=Own.made (W:=w5) (base:=w.heap.size) (n:=n) b5.size (by omega)
   have hb5:=b5.alloc b5.size (.cells (madeCells zOp.cells.toArray (n*26)) 68)
   generalize w5.alloc (.cells (madeCells zOp.cells.toArray (n*26)) 68)=W5 at ho5 hb5 ⊢
   generalize w5.heap.size=g at ho5 ⊢
   have HN:=Jh (And.intro ho5 hb5)
   clear ho5 hb5 b5 hmk w5
   go_wp2_with fail
   have hn6:n≤65536:=by omega
   go_loopg [5,8] 21 (fun z pv cv wr=>∃ (c p:Nat) (L:List (List Int)),z=21 - c∧pv=.int .i64 p∧cv=.int .i64 c∧c≤21∧p≤b.length∧L.length=c∧Hid (ZM n c (b.drop q0)=some (L,b.drop p)∧Own OpD.cells 26 68 w.heap.size wr (.slice (some ⟨g,0,none⟩) n n) (Zy n L)∧Below w.heap.size w wr))
   case atStart=>exact ⟨0,q0,[],rfl,rfl,rfl,by omega,hpb,rfl,Lib.hid ⟨rfl,by rw[Z6Z];exact HN.out.1,HN.out.2⟩⟩
   case round =>
    clear HN hpb
    obtain ⟨c,p,L,hg,rfl,rfl,hc,hpr,hL,HI⟩:=hrel
    have HG:=Lib.hid hg
    clear hg
    by_cases hlt:c<21
    ·have hc1:(c:Int)≤20:=by omega
     have hc2:¬ (20:Int)<(c:Int):=by omega
     have hLL:=Lib.hid hL
     clear hL
     obtain ⟨a1,c1,hsl,hS1,-⟩:=ZE (P:=Tryz.prog) (ea:=u8c) Tryz.underlying22 Zi a b.length cap p hcap hpr
     have HS:=Jh (fun W (hW:Below w.heap.size w W)=>hS1 W b rfl (HH.out.below hW))
     clear hS1
     go_wp2_with fail
     refine (WH _ (b.drop p) n wr (HS.out _ HI.out.2.2) hn6).mono ?_
     rintro e w6 (⟨V,u,v6,hd,rfl,hown,hb6⟩|⟨hd,rfl,hb6⟩)
     ·have HI6:Hid (Own OpD.cells 26 68 w.heap.size w6 (.slice (some ⟨g,0,none⟩) n n) (Zy n L)∧Below w.heap.size w w6):=Lib.hid ⟨HI.out.2.1.below1 hb6,HI.out.2.2.trans (hb6.mono HI.out.2.2.size)⟩
      go_wp2_with fail
      refine (UQ c hlt w6).mono ?_
      rintro e w7 ⟨rfl,rfl⟩
      cases hdl:dlt c with
      | false =>
       have HC:Hid (WK n (dlt c) (b.drop p)=some (V,u)):=Jh (by rw[hdl];exact hd)
       have HVO:=Jh (hown.mono HI.out.2.2.size)
       clear hd hown hdl hb6
       have hcf:=Vh hn6 HC.out
       have hul:=hcf.2
       rw[List.length_drop] at hul
       obtain ⟨⟨pa,pn,pc⟩,ep⟩:=HVO.out.sl
       dsimp only at ep
       subst ep
       obtain rfl:pn=n:=by have h:=(HVO.out.nlen Zg).1;rw[hcf.1] at h;exact h
       have HVL:Hid (V.length=pn):=Lib.hid hcf.1
       have HST:=Jh (VK HI.out.1 HC.out)
       clear hcf HI hsl HS HC
       go_wp2_with fail
       go_loopg [12] pn (fun z iv wx=>∃ i:Nat,z=pn - i∧iv=.int .i64 i∧i≤pn∧Hid (Own OpD.cells 26 68 w.heap.size wx (.slice (some ⟨g,0,none⟩) pn pn) (X7 (Zy pn (L++[V])) (Zy pn L) i)∧Own Zh 1 3 w.heap.size wx (.slice pa pn pc) V∧Below w.heap.size w wx))
       case atStart=>exact ⟨0,rfl,rfl,Nat.zero_le _,Lib.hid ⟨by rw[Rc];exact HI6.out.1,HVO.out,HI6.out.2⟩⟩
       case round =>
        clear HI6 HVO
        obtain ⟨i,hg,rfl,hi,HI⟩:=hrel
        have HG2:=Lib.hid hg
        clear hg
        by_cases hli:i<pn
        ·have hi1:(i:Int)<(pn:Int):=by omega
         have hi0:(0:Int)≤(i:Int):=by omega
         obtain ⟨y,hy⟩:∃ y,V[i]?=some y:=⟨_,List.getElem?_eq_getElem (by rw[HVL.out];exact hli)⟩
         obtain ⟨x,hxd⟩:=Je (zOp.withF (WV L i))
         have hln:(Zy pn (L++[V])).length=(Zy pn L).length:=by rw[ZR,ZR]
         have hln2:(X7 (Zy pn (L++[V])) (Zy pn L) i).length=pn:=by rw[Qo hln (by rw[ZR];exact hi),ZR]
         have hx:(X7 (Zy pn (L++[V])) (Zy pn L) i)[i]?=some x:=Z1e hln (by rw[UX L hli,hxd])
         have hpx:=QB (n:=pn) (L:=L) hli hy (by rw[hLL.out];exact hlt)
         rw[hxd,hLL.out] at hpx
         have HPX:=Jh (SW hln hpx)
         obtain ⟨vb,vo,ev,cv⟩:=(HI.out.2.1.slice Zg).at1 hy rfl
         cases ev
         have HLN2:=Lib.hid hln2
         have hS0:(fun W:World=>Z0 OpD.cells 26 W (.slice (some ⟨g,0,none⟩) pn pn) (X7 (Zy pn (L++[V])) (Zy pn L) i)∧W.cell? ⟨vb,vo+i,none⟩=some (.int .i64 y)) wr.drew:=⟨HI.out.1.slice OpD.len,cv⟩
         have HX:=Lib.hid hx
         have HI1:Hid (Own OpD.cells 26 68 w.heap.size wr.drew (.slice (some ⟨g,0,none⟩) pn pn) (X7 (Zy pn (L++[V])) (Zy pn L) i)∧Own Zh 1 3 w.heap.size wr.drew (.slice (some ⟨vb,vo,none⟩) pn pc) V∧Below w.heap.size w wr.drew):=Lib.hid ⟨HI.out.1.drew,HI.out.2.1.drew,HI.out.2.2.drew⟩
         clear hx hpx hln hln2 cv hxd HI hy
         go_upto_region 16 with fail
         refine Z6 (fun W:World=>Z0 OpD.cells 26 W (.slice (some ⟨g,0,none⟩) pn pn) (X7 (Zy pn (L++[V])) (Zy pn L) i)∧W.cell? ⟨vb,vo+i,none⟩=some (.int .i64 y)) (fun i=>i == 13) (by kernel_rfl) ?_
         generalize wr.drew=W1 at hS0 HI1 ⊢
         refine J2 0 65 (.slice (some ⟨g,0,none⟩) pn pn) hS0 ?_
         try simp only[Ja]
         refine J2 1 66 (.int .i64 i) hS0 ?_
         try simp only[Ja]
         refine J2 2 67 (.slice (some ⟨g,0,none⟩) pn pn) hS0 ?_
         try simp only[Ja]
         refine J2 3 68 (.int .i64 i) hS0 ?_
         try simp only[Ja]
         refine J2 4 69 (.pointer (some ⟨g,i*26,none⟩)) hS0 ?_
         try simp only[Ja]
         refine JR 5 70 (.agg x.cells.toArray) rfl rfl hS0 (fun W hW=>by have h:=Xc hW.1 HX.out;rw[Nat.zero_add] at h;exact Z8 rfl rfl h) ?_
         try simp only[Ja]
         refine J2 6 71 (.int .i64 c) hS0 ?_
         try simp only[Ja]
         refine J2 7 72 (.slice (some ⟨vb,vo,none⟩) pn pc) hS0 ?_
         try simp only[Ja]
         refine J2 8 73 (.int .i64 i) hS0 ?_
         try simp only[Ja]
         refine J2 9 74 (.pointer (some ⟨vb,vo+i,none⟩)) hS0 ?_
         try simp only[Ja]
         refine J2 10 75 (.int .i64 y) hS0 ?_
         try simp only[Ja]
         refine Zm (i:=11) (d:=some 76) (f:=58) (args:=#[.agg x.cells.toArray,.int .i64 c,.int .i64 y]) (w':=W1) (by kernel_rfl) rfl rfl (by rfl) (by go_simp;try rfl) ?_
         refine (SZ x c hlt y W1).mono ?_
         rintro e w7 ⟨rfl,b7⟩
         have hS7:(fun W:World=>Z0 OpD.cells 26 W (.slice (some ⟨g,0,none⟩) pn pn) (X7 (Zy pn (L++[V])) (Zy pn L) i)∧W.cell? ⟨vb,vo+i,none⟩=some (.int .i64 y)) w7:=⟨hS0.1.below b7,(b7.cell (p:=⟨vb,vo+i,none⟩) (Zq hS0.2)).trans hS0.2⟩
         refine ⟨(x.putF c y).val,rfl,fun _=>hS7,?_⟩
         try simp only[Ja]
         have HI7:=Jh (And.intro (HI1.out.1.below1 b7) (And.intro (HI1.out.2.1.below1 b7) (HI1.out.2.2.trans (b7.mono HI1.out.2.2.size))))
         refine J2 12 77 (.pointer (some ⟨g,i*26,none⟩)) hS7 ?_
         try simp only[Ja]
         have ho7:=HI7.out.1
         obtain ⟨W8,hst,ho8,hx8⟩:=Rh ho7 HLN2.out (i:=i) hli (x.putF c y)
         rw[HPX.out] at ho8
         have HN:=Jh (And.intro ho8 (And.intro (QE HI7.out.2.1 HI7.out.1 (by decide) rfl hx8) (Ext.new HI7.out.2.2 hx8 (fun k hk _ e=>by have:=(ho7.blk g rfl).1;omega) HI7.out.2.2.size)))
         refine Zn (i:=13) (d:=none) (w':=W8) (by kernel_rfl) rfl rfl (by rfl) (Yi rfl rfl rfl hst) (fun h=>by cases h) ?_
         try simp only[Ja]
         refine Z3 (by kernel_rfl) ?_ _
         clear hst ho8 hx8 ho7 HI7 HI1 hS7 hS0 b7
         go_wp2_with fail
         go_roundg (pn - (i+1))
         case measure=>rw[HG2.out];omega
         case rel=>exact ⟨i+1,rfl,by simp,by omega,HN⟩
        ·obtain rfl:i=pn:=by omega
         have hi1:¬ (i:Int)<(i:Int):=by omega
         have HN:Hid (ZM i (c+1) (b.drop q0)=some (L++[V],b.drop (p+u))∧Own OpD.cells 26 68 w.heap.size wr (.slice (some ⟨g,0,none⟩) i i) (Zy i (L++[V]))∧Below w.heap.size w wr):=Lib.hid ⟨by have h:=HST.out;rwa [List.drop_drop] at h,by have h:=HI.out.1;have e:=Qu (a:=Zy i (L++[V])) (b:=Zy i L) (by rw[ZR,ZR]);rw[ZR] at e;rw[e] at h;exact h,HI.out.2.2⟩
         clear HI HST
         go_wp2_with fail
         go_roundg (21 - (c+1))
         case measure=>rw[HG.out];omega
         case rel=>exact ⟨c+1,p+u,L++[V],rfl,by simp,by simp,by omega,by omega,by rw[List.length_append,hLL.out];rfl,HN⟩
      | true =>
       clear hd hb6 hown
       go_wp2_with fail
       refine (Tq _ (b.drop p) n w7 (HS.out _ HI6.out.2) hn6).mono ?_
       rintro e w8 (⟨V2,u2,v8,hd,rfl,hown,hb8⟩|⟨hd,rfl,hb8⟩)
       ·have HC:Hid (WK n (dlt c) (b.drop p)=some (V2,u2)):=Jh (by rw[hdl];exact hd)
        have HVO:=Jh (hown.mono HI6.out.2.size)
        have HI8:Hid (Own OpD.cells 26 68 w.heap.size w8 (.slice (some ⟨g,0,none⟩) n n) (Zy n L)∧Below w.heap.size w w8):=Lib.hid ⟨HI6.out.1.below1 hb8,HI6.out.2.trans (hb8.mono HI6.out.2.size)⟩
        clear hd hown hdl hb8 HI6
        have hcf:=Vh hn6 HC.out
        have hul:=hcf.2
        rw[List.length_drop] at hul
        obtain ⟨⟨pa,pn,pc⟩,ep⟩:=HVO.out.sl
        dsimp only at ep
        subst ep
        obtain rfl:pn=n:=by have h:=(HVO.out.nlen Zg).1;rw[hcf.1] at h;exact h
        have HVL:Hid (V2.length=pn):=Lib.hid hcf.1
        have HST:=Jh (VK HI.out.1 HC.out)
        clear hcf HI hsl HS HC
        go_wp2_with fail
        go_loopg [12] pn (fun z iv wx=>∃ i:Nat,z=pn - i∧iv=.int .i64 i∧i≤pn∧Hid (Own OpD.cells 26 68 w.heap.size wx (.slice (some ⟨g,0,none⟩) pn pn) (X7 (Zy pn (L++[V2])) (Zy pn L) i)∧Own Zh 1 3 w.heap.size wx (.slice pa pn pc) V2∧Below w.heap.size w wx))
        case atStart=>exact ⟨0,rfl,rfl,Nat.zero_le _,Lib.hid ⟨by rw[Rc];exact HI8.out.1,HVO.out,HI8.out.2⟩⟩
        case round =>
         clear HI8 HVO
         obtain ⟨i,hg,rfl,hi,HI⟩:=hrel
         have HG2:=Lib.hid hg
         clear hg
         by_cases hli:i<pn
         ·have hi1:(i:Int)<(pn:Int):=by omega
          have hi0:(0:Int)≤(i:Int):=by omega
          obtain ⟨y,hy⟩:∃ y,V2[i]?=some y:=⟨_,List.getElem?_eq_getElem (by rw[HVL.out];exact hli)⟩
          obtain ⟨x,hxd⟩:=Je (zOp.withF (WV L i))
          have hln:(Zy pn (L++[V2])).length=(Zy pn L).length:=by rw[ZR,ZR]
          have hln2:(X7 (Zy pn (L++[V2])) (Zy pn L) i).length=pn:=by rw[Qo hln (by rw[ZR];exact hi),ZR]
          have hx:(X7 (Zy pn (L++[V2])) (Zy pn L) i)[i]?=some x:=Z1e hln (by rw[UX L hli,hxd])
          have hpx:=QB (n:=pn) (L:=L) hli hy (by rw[hLL.out];exact hlt)
          rw[hxd,hLL.out] at hpx
          have HPX:=Jh (SW hln hpx)
          obtain ⟨vb,vo,ev,cv⟩:=(HI.out.2.1.slice Zg).at1 hy rfl
          cases ev
          have HLN2:=Lib.hid hln2
          have hS0:(fun W:World=>Z0 OpD.cells 26 W (.slice (some ⟨g,0,none⟩) pn pn) (X7 (Zy pn (L++[V2])) (Zy pn L) i)∧W.cell? ⟨vb,vo+i,none⟩=some (.int .i64 y)) wr.drew:=⟨HI.out.1.slice OpD.len,cv⟩
          have HX:=Lib.hid hx
          have HI1:Hid (Own OpD.cells 26 68 w.heap.size wr.drew (.slice (some ⟨g,0,none⟩) pn pn) (X7 (Zy pn (L++[V2])) (Zy pn L) i)∧Own Zh 1 3 w.heap.size wr.drew (.slice (some ⟨vb,vo,none⟩) pn pc) V2∧Below w.heap.size w wr.drew):=Lib.hid ⟨HI.out.1.drew,HI.out.2.1.drew,HI.out.2.2.drew⟩
          clear hx hpx hln hln2 cv hxd HI hy
          go_upto_region 16 with fail
          refine Z6 (fun W:World=>Z0 OpD.cells 26 W (.slice (some ⟨g,0,none⟩) pn pn) (X7 (Zy pn (L++[V2])) (Zy pn L) i)∧W.cell? ⟨vb,vo+i,none⟩=some (.int .i64 y)) (fun i=>i == 13) (by kernel_rfl) ?_
          generalize wr.drew=W1 at hS0 HI1 ⊢
          refine J2 0 65 (.slice (some ⟨g,0,none⟩) pn pn) hS0 ?_
          try simp only[Ja]
          refine J2 1 66 (.int .i64 i) hS0 ?_
          try simp only[Ja]
          refine J2 2 67 (.slice (some ⟨g,0,none⟩) pn pn) hS0 ?_
          try simp only[Ja]
          refine J2 3 68 (.int .i64 i) hS0 ?_
          try simp only[Ja]
          refine J2 4 69 (.pointer (some ⟨g,i*26,none⟩)) hS0 ?_
          try simp only[Ja]
          refine JR 5 70 (.agg x.cells.toArray) rfl rfl hS0 (fun W hW=>by have h:=Xc hW.1 HX.out;rw[Nat.zero_add] at h;exact Z8 rfl rfl h) ?_
          try simp only[Ja]
          refine J2 6 71 (.int .i64 c) hS0 ?_
          try simp only[Ja]
          refine J2 7 72 (.slice (some ⟨vb,vo,none⟩) pn pc) hS0 ?_
          try simp only[Ja]
          refine J2 8 73 (.int .i64 i) hS0 ?_
          try simp only[Ja]
          refine J2 9 74 (.pointer (some ⟨vb,vo+i,none⟩)) hS0 ?_
          try simp only[Ja]
          refine J2 10 75 (.int .i64 y) hS0 ?_
          try simp only[Ja]
          refine Zm (i:=11) (d:=some 76) (f:=58) (args:=#[.agg x.cells.toArray,.int .i64 c,.int .i64 y]) (w':=W1) (by kernel_rfl) rfl rfl (by rfl) (by go_simp;try rfl) ?_
          refine (SZ x c hlt y W1).mono ?_
          rintro e w7 ⟨rfl,b7⟩
          have hS7:(fun W:World=>Z0 OpD.cells 26 W (.slice (some ⟨g,0,none⟩) pn pn) (X7 (Zy pn (L++[V2])) (Zy pn L) i)∧W.cell? ⟨vb,vo+i,none⟩=some (.int .i64 y)) w7:=⟨hS0.1.below b7,(b7.cell (p:=⟨vb,vo+i,none⟩) (Zq hS0.2)).trans hS0.2⟩
          refine ⟨(x.putF c y).val,rfl,fun _=>hS7,?_⟩
          try simp only[Ja]
          have HI7:=Jh (And.intro (HI1.out.1.below1 b7) (And.intro (HI1.out.2.1.below1 b7) (HI1.out.2.2.trans (b7.mono HI1.out.2.2.size))))
          refine J2 12 77 (.pointer (some ⟨g,i*26,none⟩)) hS7 ?_
          try simp only[Ja]
          have ho7:=HI7.out.1
          obtain ⟨W8,hst,ho8,hx8⟩:=Rh ho7 HLN2.out (i:=i) hli (x.putF c y)
          rw[HPX.out] at ho8
          have HN:=Jh (And.intro ho8 (And.intro (QE HI7.out.2.1 HI7.out.1 (by decide) rfl hx8) (Ext.new HI7.out.2.2 hx8 (fun k hk _ e=>by have:=(ho7.blk g rfl).1;omega) HI7.out.2.2.size)))
          refine Zn (i:=13) (d:=none) (w':=W8) (by kernel_rfl) rfl rfl (by rfl) (Yi rfl rfl rfl hst) (fun h=>by cases h) ?_
          try simp only[Ja]
          refine Z3 (by kernel_rfl) ?_ _
          clear hst ho8 hx8 ho7 HI7 HI1 hS7 hS0 b7
          go_wp2_with fail
          go_roundg (pn - (i+1))
          case measure=>rw[HG2.out];omega
          case rel=>exact ⟨i+1,rfl,by simp,by omega,HN⟩
         ·obtain rfl:i=pn:=by omega
          have hi1:¬ (i:Int)<(i:Int):=by omega
          have HN:Hid (ZM i (c+1) (b.drop q0)=some (L++[V2],b.drop (p+u2))∧Own OpD.cells 26 68 w.heap.size wr (.slice (some ⟨g,0,none⟩) i i) (Zy i (L++[V2]))∧Below w.heap.size w wr):=Lib.hid ⟨by have h:=HST.out;rwa [List.drop_drop] at h,by have h:=HI.out.1;have e:=Qu (a:=Zy i (L++[V2])) (b:=Zy i L) (by rw[ZR,ZR]);rw[ZR] at e;rw[e] at h;exact h,HI.out.2.2⟩
          clear HI HST
          go_wp2_with fail
          go_roundg (21 - (c+1))
          case measure=>rw[HG.out];omega
          case rel=>exact ⟨c+1,p+u2,L++[V2],rfl,by simp,by simp,by omega,by omega,by rw[List.length_append,hLL.out];rfl,HN⟩
       ·have HC:Hid (WK n (dlt c) (b.drop p)=none):=Jh (by rw[hdl];exact hd)
        have HI8:Hid (Own OpD.cells 26 68 w.heap.size w8 (.slice (some ⟨g,0,none⟩) n n) (Zy n L)∧Below w.heap.size w w8):=Lib.hid ⟨HI6.out.1.below1 hb8,HI6.out.2.trans (hb8.mono HI6.out.2.size)⟩
        clear hd hdl hb8 HI6
        have HBAD:Hid (Xf b=none):=Jh (Uy HV.out hbig (by rw[hq0];exact Vp HI.out.1 HC.out hlt))
        have HB9:=Lib.hid HI8.out.2
        clear HI hsl HS HC HI8
        go_wp2_with fail
        go_ret2
        exact .inr ⟨HBAD.out,rfl,HB9.out⟩
     ·have HI6:Hid (Own OpD.cells 26 68 w.heap.size w6 (.slice (some ⟨g,0,none⟩) n n) (Zy n L)∧Below w.heap.size w w6):=Lib.hid ⟨HI.out.2.1.below1 hb6,HI.out.2.2.trans (hb6.mono HI.out.2.2.size)⟩
      go_wp2_with fail
      refine (UQ c hlt w6).mono ?_
      rintro e w7 ⟨rfl,rfl⟩
      cases hdl:dlt c with
      | false =>
       have HC:Hid (WK n (dlt c) (b.drop p)=none):=Jh (by rw[hdl];exact hd)
       clear hd hdl hb6
       have HBAD:Hid (Xf b=none):=Jh (Uy HV.out hbig (by rw[hq0];exact Vp HI.out.1 HC.out hlt))
       have HB9:=Lib.hid HI6.out.2
       clear HI hsl HS HC HI6
       go_wp2_with fail
       go_ret2
       exact .inr ⟨HBAD.out,rfl,HB9.out⟩
      | true =>
       clear hd hb6
       go_wp2_with fail
       refine (Tq _ (b.drop p) n w7 (HS.out _ HI6.out.2) hn6).mono ?_
       rintro e w8 (⟨V2,u2,v8,hd,rfl,hown,hb8⟩|⟨hd,rfl,hb8⟩)
       ·have HC:Hid (WK n (dlt c) (b.drop p)=some (V2,u2)):=Jh (by rw[hdl];exact hd)
        have HVO:=Jh (hown.mono HI6.out.2.size)
        have HI8:Hid (Own OpD.cells 26 68 w.heap.size w8 (.slice (some ⟨g,0,none⟩) n n) (Zy n L)∧Below w.heap.size w w8):=Lib.hid ⟨HI6.out.1.below1 hb8,HI6.out.2.trans (hb8.mono HI6.out.2.size)⟩
        clear hd hown hdl hb8 HI6
        have hcf:=Vh hn6 HC.out
        have hul:=hcf.2
        rw[List.length_drop] at hul
        obtain ⟨⟨pa,pn,pc⟩,ep⟩:=HVO.out.sl
        dsimp only at ep
        subst ep
        obtain rfl:pn=n:=by have h:=(HVO.out.nlen Zg).1;rw[hcf.1] at h;exact h
        have HVL:Hid (V2.length=pn):=Lib.hid hcf.1
        have HST:=Jh (VK HI.out.1 HC.out)
        clear hcf HI hsl HS HC
        go_wp2_with fail
        go_loopg [12] pn (fun z iv wx=>∃ i:Nat,z=pn - i∧iv=.int .i64 i∧i≤pn∧Hid (Own OpD.cells 26 68 w.heap.size wx (.slice (some ⟨g,0,none⟩) pn pn) (X7 (Zy pn (L++[V2])) (Zy pn L) i)∧Own Zh 1 3 w.heap.size wx (.slice pa pn pc) V2∧Below w.heap.size w wx))
        case atStart=>exact ⟨0,rfl,rfl,Nat.zero_le _,Lib.hid ⟨by rw[Rc];exact HI8.out.1,HVO.out,HI8.out.2⟩⟩
        case round =>
         clear HI8 HVO
         obtain ⟨i,hg,rfl,hi,HI⟩:=hrel
         have HG2:=Lib.hid hg
         clear hg
         by_cases hli:i<pn
         ·have hi1:(i:Int)<(pn:Int):=by omega
          have hi0:(0:Int)≤(i:Int):=by omega
          obtain ⟨y,hy⟩:∃ y,V2[i]?=some y:=⟨_,List.getElem?_eq_getElem (by rw[HVL.out];exact hli)⟩
          obtain ⟨x,hxd⟩:=Je (zOp.withF (WV L i))
          have hln:(Zy pn (L++[V2])).length=(Zy pn L).length:=by rw[ZR,ZR]
          have hln2:(X7 (Zy pn (L++[V2])) (Zy pn L) i).length=pn:=by rw[Qo hln (by rw[ZR];exact hi),ZR]
          have hx:(X7 (Zy pn (L++[V2])) (Zy pn L) i)[i]?=some x:=Z1e hln (by rw[UX L hli,hxd])
          have hpx:=QB (n:=pn) (L:=L) hli hy (by rw[hLL.out];exact hlt)
          rw[hxd,hLL.out] at hpx
          have HPX:=Jh (SW hln hpx)
          obtain ⟨vb,vo,ev,cv⟩:=(HI.out.2.1.slice Zg).at1 hy rfl
          cases ev
          have HLN2:=Lib.hid hln2
          have hS0:(fun W:World=>Z0 OpD.cells 26 W (.slice (some ⟨g,0,none⟩) pn pn) (X7 (Zy pn (L++[V2])) (Zy pn L) i)∧W.cell? ⟨vb,vo+i,none⟩=some (.int .i64 y)) wr.drew:=⟨HI.out.1.slice OpD.len,cv⟩
          have HX:=Lib.hid hx
          have HI1:Hid (Own OpD.cells 26 68 w.heap.size wr.drew (.slice (some ⟨g,0,none⟩) pn pn) (X7 (Zy pn (L++[V2])) (Zy pn L) i)∧Own Zh 1 3 w.heap.size wr.drew (.slice (some ⟨vb,vo,none⟩) pn pc) V2∧Below w.heap.size w wr.drew):=Lib.hid ⟨HI.out.1.drew,HI.out.2.1.drew,HI.out.2.2.drew⟩
          clear hx hpx hln hln2 cv hxd HI hy
          go_upto_region 16 with fail
          refine Z6 (fun W:World=>Z0 OpD.cells 26 W (.slice (some ⟨g,0,none⟩) pn pn) (X7 (Zy pn (L++[V2])) (Zy pn L) i)∧W.cell? ⟨vb,vo+i,none⟩=some (.int .i64 y)) (fun i=>i == 13) (by kernel_rfl) ?_
          generalize wr.drew=W1 at hS0 HI1 ⊢
          refine J2 0 65 (.slice (some ⟨g,0,none⟩) pn pn) hS0 ?_
          try simp only[Ja]
          refine J2 1 66 (.int .i64 i) hS0 ?_
          try simp only[Ja]
          refine J2 2 67 (.slice (some ⟨g,0,none⟩) pn pn) hS0 ?_
          try simp only[Ja]
          refine J2 3 68 (.int .i64 i) hS0 ?_
          try simp only[Ja]
          refine J2 4 69 (.pointer (some ⟨g,i*26,none⟩)) hS0 ?_
          try simp only[Ja]
          refine JR 5 70 (.agg x.cells.toArray) rfl rfl hS0 (fun W hW=>by have h:=Xc hW.1 HX.out;rw[Nat.zero_add] at h;exact Z8 rfl rfl h) ?_
          try simp only[Ja]
          refine J2 6 71 (.int .i64 c) hS0 ?_
          try simp only[Ja]
          refine J2 7 72 (.slice (some ⟨vb,vo,none⟩) pn pc) hS0 ?_
          try simp only[Ja]
          refine J2 8 73 (.int .i64 i) hS0 ?_
          try simp only[Ja]
          refine J2 9 74 (.pointer (some ⟨vb,vo+i,none⟩)) hS0 ?_
          try simp only[Ja]
          refine J2 10 75 (.int .i64 y) hS0 ?_
          try simp only[Ja]
          refine Zm (i:=11) (d:=some 76) (f:=58) (args:=#[.agg x.cells.toArray,.int .i64 c,.int .i64 y]) (w':=W1) (by kernel_rfl) rfl rfl (by rfl) (by go_simp;try rfl) ?_
          refine (SZ x c hlt y W1).mono ?_
          rintro e w7 ⟨rfl,b7⟩
          have hS7:(fun W:World=>Z0 OpD.cells 26 W (.slice (some ⟨g,0,none⟩) pn pn) (X7 (Zy pn (L++[V2])) (Zy pn L) i)∧W.cell? ⟨vb,vo+i,none⟩=some (.int .i64 y)) w7:=⟨hS0.1.below b7,(b7.cell (p:=⟨vb,vo+i,none⟩) (Zq hS0.2)).trans hS0.2⟩
          refine ⟨(x.putF c y).val,rfl,fun _=>hS7,?_⟩
          try simp only[Ja]
          have HI7:=Jh (And.intro (HI1.out.1.below1 b7) (And.intro (HI1.out.2.1.below1 b7) (HI1.out.2.2.trans (b7.mono HI1.out.2.2.size))))
          refine J2 12 77 (.pointer (some ⟨g,i*26,none⟩)) hS7 ?_
          try simp only[Ja]
          have ho7:=HI7.out.1
          obtain ⟨W8,hst,ho8,hx8⟩:=Rh ho7 HLN2.out (i:=i) hli (x.putF c y)
          rw[HPX.out] at ho8
          have HN:=Jh (And.intro ho8 (And.intro (QE HI7.out.2.1 HI7.out.1 (by decide) rfl hx8) (Ext.new HI7.out.2.2 hx8 (fun k hk _ e=>by have:=(ho7.blk g rfl).1;omega) HI7.out.2.2.size)))
          refine Zn (i:=13) (d:=none) (w':=W8) (by kernel_rfl) rfl rfl (by rfl) (Yi rfl rfl rfl hst) (fun h=>by cases h) ?_
          try simp only[Ja]
          refine Z3 (by kernel_rfl) ?_ _
          clear hst ho8 hx8 ho7 HI7 HI1 hS7 hS0 b7
          go_wp2_with fail
          go_roundg (pn - (i+1))
          case measure=>rw[HG2.out];omega
          case rel=>exact ⟨i+1,rfl,by simp,by omega,HN⟩
         ·obtain rfl:i=pn:=by omega
          have hi1:¬ (i:Int)<(i:Int):=by omega
          have HN:Hid (ZM i (c+1) (b.drop q0)=some (L++[V2],b.drop (p+u2))∧Own OpD.cells 26 68 w.heap.size wr (.slice (some ⟨g,0,none⟩) i i) (Zy i (L++[V2]))∧Below w.heap.size w wr):=Lib.hid ⟨by have h:=HST.out;rwa [List.drop_drop] at h,by have h:=HI.out.1;have e:=Qu (a:=Zy i (L++[V2])) (b:=Zy i L) (by rw[ZR,ZR]);rw[ZR] at e;rw[e] at h;exact h,HI.out.2.2⟩
          clear HI HST
          go_wp2_with fail
          go_roundg (21 - (c+1))
          case measure=>rw[HG.out];omega
          case rel=>exact ⟨c+1,p+u2,L++[V2],rfl,by simp,by simp,by omega,by omega,by rw[List.length_append,hLL.out];rfl,HN⟩
       ·have HC:Hid (WK n (dlt c) (b.drop p)=none):=Jh (by rw[hdl];exact hd)
        have HI8:Hid (Own OpD.cells 26 68 w.heap.size w8 (.slice (some ⟨g,0,none⟩) n n) (Zy n L)∧Below w.heap.size w w8):=Lib.hid ⟨HI6.out.1.below1 hb8,HI6.out.2.trans (hb8.mono HI6.out.2.size)⟩
        clear hd hdl hb8 HI6
        have HBAD:Hid (Xf b=none):=Jh (Uy HV.out hbig (by rw[hq0];exact Vp HI.out.1 HC.out hlt))
        have HB9:=Lib.hid HI8.out.2
        clear HI hsl HS HC HI8
        go_wp2_with fail
        go_ret2
        exact .inr ⟨HBAD.out,rfl,HB9.out⟩
    ·obtain rfl:c=21:=by omega
     have hc1:¬ (21:Int)≤20:=by omega
     have hc2:(20:Int)<21:=by omega
     have HC:Hid (ZM n 21 (b.drop (Z5 n).length)=some (L,b.drop p)):=Jh (by rw[hq0];exact HI.out.1)
     have HI6:=Lib.hid HI.out.2
     obtain ⟨a1,c1,hsl,hS1,-⟩:=ZE (P:=Tryz.prog) (ea:=u8c) Tryz.underlying22 Zi a b.length cap p hcap hpr
     have HS:=Jh (hS1 w b rfl HH.out)
     clear hS1 HI HG hlt hc hL
     simp only[show (((21:Nat):Int))=21 from rfl]
     go_wp2_with fail
     refine (Z3J w wr _ _ (b.drop p) (Zy n L) HI6.out.1 HI6.out.2 HS.out (by rw[ZR];omega)).mono ?_
     rintro e w6 (⟨l3,p1,hp1,hdec,rfl,hk6⟩|⟨hdec,rfl,hb6⟩)
     rotate_left
     ·rw[ZR] at hdec
      have HBAD:=Jh (Z0j HV.out hbig HC.out hdec)
      have HBL:=Lib.hid hb6
      clear hdec hb6 HI6 HC HS hsl
      go_wp2_with fail
      go_ret2
      exact .inr ⟨HBAD.out,rfl,HBL.out⟩
     rw[ZR] at hdec
     rw[List.length_drop] at hp1
     have HCH:=Jh (R2 HV.out hbig HC.out hdec)
     have HL3:Hid (l3.length=n):=Jh ((RN hdec).trans (ZR n L))
     have HN6:=Lib.hid hk6
     have HP1:=Lib.hid hp1
     have hneg1:¬ (p1:Int)<0:=by omega
     have hp1b:(p:Int)+(p1:Int)≤(b.length:Int):=by omega
     clear hdec hk6 HI6 HC HS hsl hp1
     go_wp2_with fail
     rw[List.drop_drop] at HCH
     go_loopg [5,14] 3 (fun z pv kv wx=>∃ (k p2:Nat) (l4:List OpD),z=3 - k∧pv=.int .i64 p2∧kv=.int .i64 k∧k≤3∧p2≤b.length∧Hid (tkX n k (l3,b.drop (p+p1))=some (l4,b.drop p2)∧l4.length=n∧Own OpD.cells 26 68 w.heap.size wx (.slice (some ⟨g,0,none⟩) n n) l4∧Below w.heap.size w wx))
     case atStart=>exact ⟨0,p+p1,l3,rfl,by simp,rfl,by omega,by have:=HP1.out;omega,Lib.hid ⟨rfl,HL3.out,HN6.out.1,HN6.out.2⟩⟩
     case round =>
      clear HN6 HL3 HP1 hneg1 hp1b
      obtain ⟨k,p2,l4,hg,rfl,rfl,hk,hp2,HR⟩:=hrel
      have HG:=Lib.hid hg
      clear hg
      by_cases hlt:k<3
      ·have hk1:(k:Int)<3:=by omega
       have HLT:=Lib.hid hlt
       clear hlt
       obtain ⟨a1,c1,hsl,hS1,-⟩:=ZE (P:=Tryz.prog) (ea:=u8c) Tryz.underlying22 Zi a b.length cap p2 hcap hp2
       have HS:=Jh (hS1 w b rfl HH.out)
       clear hS1
       go_wp2_with fail
       refine (Z4I w wr _ _ (b.drop p2) l4 k HLT.out HR.out.2.2.1 HR.out.2.2.2 HS.out (by rw[HR.out.2.1];omega)).mono ?_
       rintro e w7 (⟨l5,p3,hp3,hdec,rfl,hk7⟩|⟨hdec,rfl,hb7⟩)
       rotate_left
       ·rw[HR.out.2.1] at hdec
        have HBAD:=Jh (VE (HCH.out.trans (Z4a HR.out.1 hdec HLT.out)))
        have HBL:=Lib.hid hb7
        clear hdec hb7 HR HS hsl
        go_wp2_with fail
        go_ret2
        exact .inr ⟨HBAD.out,rfl,HBL.out⟩
       rw[HR.out.2.1] at hdec
       rw[List.length_drop] at hp3
       have hst:=(QK HR.out.1).trans hdec
       rw[List.drop_drop] at hst
       have HNN:Hid (tkX n (k+1) (l3,b.drop (p+p1))=some (l5,b.drop (p2+p3))∧l5.length=n∧Own OpD.cells 26 68 w.heap.size w7 (.slice (some ⟨g,0,none⟩) n n) l5∧Below w.heap.size w w7):=Lib.hid ⟨hst,(Z2M hdec).trans HR.out.2.1,hk7.1,hk7.2⟩
       have HP3:Hid (p2+p3≤b.length):=Jh (by omega)
       have hneg3:¬ (p3:Int)<0:=by omega
       have hp3b:(p2:Int)+(p3:Int)≤(b.length:Int):=by omega
       clear hdec hk7 HR hst HS hsl hp3
       go_wp2_with fail
       go_roundg (3 - (k+1))
       case measure=>rw[HG.out];have:=HLT.out;omega
       case rel=>exact ⟨k+1,p2+p3,l5,rfl,by simp,by simp,by have:=HLT.out;omega,HP3.out,HNN⟩
      ·obtain rfl:k=3:=by omega
       have hk1:¬ (3:Int)<3:=by omega
       have HD:Hid (Xn b=some (l4,b.drop p2)):=Jh (HCH.out.trans HR.out.1)
       have HKS:=Lib.hid HR.out.2.2
       have HL4:=Lib.hid HR.out.2.1
       clear HR hlt hk HCH HG HV
       simp only[show (((3:Nat):Int))=3 from rfl]
       go_wp2_with fail
       refine (Z2Z _ l4 wr (HKS.out.1.slice OpD.len) (WY HD.out).2.2 (by rw[HL4.out];omega)).mono ?_
       rintro e w7 (⟨h1,h2,v7,rfl,hown,hb7⟩|⟨h1,rfl,hb7⟩|⟨h1,⟨x,hx,hxr⟩,rfl,hb7⟩)
       ·have HO7:=Jh (HKS.out.1.below1 hb7)
        have HB7:=Jh (HKS.out.2.trans (hb7.mono HKS.out.2.size))
        have hcv:=Zs (hown.slice Z7)
        have hcv2:=Zs (HH.out.below HB7.out)
        obtain ⟨⟨ra,rn,rc⟩,e5⟩:=hown.sl
        dsimp only at e5
        subst e5
        have he:=XK ⟨(Xm l4).toArray⟩ ⟨b.toArray⟩
        have H2:=Lib.hid h2
        by_cases hE:Xm l4=b
        ·rw[decide_eq_true (by rw[hE])] at he
         have he2:(Xm l4 == b)=true:=by rw[hE];exact beq_self_eq_true b
         have hr4:b.drop p2=[]:=by
          have h:=(WY HD.out).2.1
          have e:=congrArg List.length h
          rw[hE,List.length_append] at e
          exact List.eq_nil_of_length_eq_zero (by omega)
         have HALL:Hid (Xf b=some l4):=Jh (Z2x (by rw[←hr4];exact HD.out) H2.out)
         clear hE hr4 hown hb7 HKS h1 h2
         go_wp2_with fail
         go_ret2
         exact .inl ⟨l4,_,HALL.out,rfl,HO7.out,HB7.out⟩
        ·rw[decide_eq_false (fun e=>hE (by have:=congrArg (fun x=>x.data.toList) e;simpa using this))] at he
         have he2:(Xm l4 == b)=false:=beq_false_of_ne hE
         have HBAD:Hid (Xf b=none):=Jh (Rw HD.out (fun h=>hE (by have h3:=(WY HD.out).2.1;rw[h.1,List.append_nil] at h3;exact h3.symm)))
         clear hE hown hb7 HKS h1 h2
         go_wp2_with fail
         go_ret2
         exact .inr ⟨HBAD.out,rfl,HB7.out⟩
       ·exact absurd h1 (by rw[HL4.out];omega)
       ·have HB7:=Jh (HKS.out.2.trans (hb7.mono HKS.out.2.size))
        have HBAD:Hid (Xf b=none):=Jh (Rw HD.out (fun h=>by have:=h.2 x hx;rw[hxr] at this;cases this))
        clear hx hxr h1 hb7 HKS
        go_wp2_with fail
        go_ret2
        exact .inr ⟨HBAD.out,rfl,HB7.out⟩
def Vk (base:Nat) (w:World) (v:Value) (ls:List (List OpD)):Prop :=
 ∃ ss:List Sl,Own slc 1 24 base w v ss∧ss.length=ls.length∧∀ (i:Nat) (s:Sl) (l:List OpD),ss[i]?=some s→ls[i]?=some l→Own OpD.cells 26 68 base w s.val l
theorem Vk.below {base:Nat} {w w':World} {v:Value} {ls:List (List OpD)} (h:Vk base w v ls) (hb:Below w.heap.size w w'):Vk base w' v ls:=by
 obtain ⟨ss,h1,h2,h3⟩:=h
 exact ⟨ss,h1.below1 hb,h2,fun i s l hs hl=>(h3 i s l hs hl).below1 hb⟩
theorem Vk.nil (base:Nat) (w:World):Vk base w (.slice none 0 0) []:=⟨[],Own.nil,rfl,fun i s l hs=>by simp at hs⟩
theorem Z6g:(Tryz.prog.info? 24).map (fun i=>(i.zero,i.size,i.bytes))=some (some (.slice none 0 0),1,24):=by kernel_rfl
theorem Vk.snoc {base:Nat} {w':World} {v':Value} {ls:List (List OpD)} {l:List OpD} {ss:List Sl} {s:Sl} (h1:ss.length=ls.length) (h2:∀ (i:Nat) (s:Sl) (l:List OpD),ss[i]?=some s→ls[i]?=some l→Own OpD.cells 26 68 base w' s.val l)
  (h3:Own slc 1 24 base w' v' (ss++[s])) (h4:Own OpD.cells 26 68 base w' s.val l):Vk base w' v' (ls++[l]):=by
 refine ⟨ss++[s],h3,by simp[h1],fun i t m ht hm=>?_⟩
 rw[List.getElem?_append] at ht hm
 by_cases hi:i<ss.length
 ·rw[if_pos hi] at ht
  rw[if_pos (by omega)] at hm
  exact h2 i t m ht hm
 ·rw[if_neg hi] at ht
  rw[if_neg (by omega)] at hm
  have e1:i - ss.length=0:=by
   have:=(List.getElem?_eq_some_iff.1 ht).1
   simp at this
   omega
  rw[e1] at ht
  rw[←h1,e1] at hm
  cases ht
  cases hm
  exact h4
def Rp (w:World) (b:List UInt8) (e:Ending) (w':World):Prop :=
 ∃ v,e=.returned (.tuple #[v,.int .i64 (Vu b:Int)])∧Vk w.heap.size w' v (V4 b)∧Below w.heap.size w w'
theorem TC {w wr:World} {b:List UInt8} {ls:List (List OpD)} {k:Nat} {v:Value} (hP:k=(Ze ls).length∧b=Ze ls++b.drop k∧(∀ l∈ls,Y5 l)) (hM:Vk w.heap.size wr v ls∧Below w.heap.size w wr) (hl:YM (b.drop k)=none) {w':World} (hb:Below w.heap.size w w') (hb2:Below wr.heap.size wr w') :
  Rp w b (.returned (.tuple #[v,.int .i64 (k:Int)])) w':=by
 have h1:=(Sa hP.2.2 hP.2.1 hl).1
 have h2:=Z0W hP.2.2 hP.2.1 hl
 refine ⟨v,?_,?_,hb⟩
 ·rw[h2,←hP.1]
 ·rw[h1];exact hM.1.below hb2
theorem Z5X (v:Value) (b:List UInt8) (w:World) (h:Z0 u8c 1 w v b) (hn:b.length≤1048576):Calls Tryz.prog 31 #[v] w fun e w'=>Rp w b e w':=by
 obtain ⟨xa,xc,rfl,hxc,hxm,-⟩:=id h
 unfold maxLen at hxm
 obtain ⟨q,hq⟩:=Je (b.length)
 have HQ:=Lib.hid hq
 rw[hq] at h hxc hn ⊢
 have HH:=Lib.hid h
 clear h hq
 go_enter Tryz.func31,Tryz.ntmps31
 go_wp2_with fail
 go_loopg [4,5] q (fun g ov kv wx=>∃ (ls:List (List OpD)) (k:Nat) (so:Sl),g=q - k∧ov=.slice so.a so.n so.cap∧kv=.int .i64 k∧k≤q∧Hid (k=(Ze ls).length∧b=Ze ls++b.drop k∧(∀ l∈ls,Y5 l)) ∧
  Hid (Vk w.heap.size wx so.val ls∧Below w.heap.size w wx))
 case atStart=>exact ⟨[],0,⟨none,0,0⟩,rfl,rfl,rfl,Nat.zero_le _,Lib.hid ⟨rfl,by simp[Ze],fun l hl=>(by cases hl)⟩,Lib.hid ⟨Vk.nil _ _,Below.refl _ _⟩⟩
 case round =>
  obtain ⟨ls,k,so,hg,rfl,rfl,hkq,HP,HM⟩:=hrel
  have HG:=Lib.hid hg
  clear hg
  obtain ⟨a1,c1,hsl,hS1,-⟩:=ZE (P:=Tryz.prog) (ea:=u8c) Tryz.underlying22 Zi xa q xc k hxc hkq
  have HS1:=Jh (hS1 wr b HQ.out (HH.out.below (HM.out.2.mono (Nat.le_refl _))))
  clear hS1
  go_wp2_with fail
  refine (Z52 _ (b.drop k) _ HS1.out).mono ?_
  rintro e w4 hp
  unfold Ul at hp
  rcases hp with ⟨kd,body,v1,ht,rfl,hown,hb4⟩|⟨ht,⟨c,hc,rfl⟩,hb4⟩
  ·have B4:=Jh (HM.out.2.trans (hb4.mono HM.out.2.size))
   have HT:=Lib.hid ht
   have hfl:=Z20 ht
   have HB4:=Lib.hid hb4
   clear ht
   by_cases hk:kd=66
   ·subst hk
    obtain ⟨ya,yc,hv1,hyc,hym,-⟩:=hown.slice Z7
    have HY:=Jh (hown.slice Z7)
    subst hv1
    clear hown hb4
    go_wp2_with fail
    refine (Z3m _ body _ HY.out).mono ?_
    rintro e w5 hd
    unfold RC at hd
    rcases hd with ⟨l,x,hdl,rfl,ho,hb5⟩|⟨hdn,rfl,hb5⟩
    ·obtain ⟨za,zc,hx,hzc,hzm,-⟩:=ho.slice OpD.len
     subst hx
     cases l with
     | nil =>
      have HF:=Jh (TC HP.out HM.out (Qh HT.out hdl) (B4.out.trans (hb5.mono B4.out.size)) (HB4.out.trans (hb5.mono HB4.out.size)))
      clear hdl ho hb5
      go_wp2_with fail
      go_ret2
      exact HF.out
     | cons o0 l0 =>
      obtain ⟨l,hl⟩:=Je (o0 :: l0)
      have hne:l≠[]:=by rw[←hl];simp
      rw[hl] at hdl ho hzc ⊢
      clear hl
      have hT:=TF HT.out hdl hne
      obtain ⟨hbd,hn0,hnl⟩:=Qf hT
      obtain ⟨hgl,hnn,-⟩:=We.1 hT
      have hl0:¬ ((l.length:Nat):Int)=0:=by have:=List.length_pos_iff.2 hne;omega
      have hkn:k+(11+body.length)≤q:=by rw[List.length_drop,HQ.out] at hnl;omega
      have HP2:Hid (k+(11+body.length)=(Ze (ls++[l])).length∧b=Ze (ls++[l])++b.drop (k+(11+body.length))∧(∀ m∈ls++[l],Y5 m)):=Jh (by
       refine ⟨?_,?_,fun m hm=>?_⟩
       ·rw[Xw,Va,List.length_append,←hnn,←HP.out.1]
       ·rw[Xw,Va,List.append_assoc,←List.drop_drop,←hbd]
        exact HP.out.2.1
       ·rcases List.mem_append.1 hm with hm|hm
        ·exact HP.out.2.2 m hm
        ·rw[List.mem_singleton.1 hm];exact hgl)
      have B5:=Jh (B4.out.trans (hb5.mono B4.out.size))
      have HB5:=Jh (HB4.out.trans (hb5.mono HB4.out.size))
      obtain ⟨ql,hql⟩:=Je (l.length)
      have hcnt:=Sz ls HP.out.2.2
      obtain ⟨ss,ho1,hs2,hs3⟩:=HM.out.1.below HB5.out
      have hsl2:ss.length≤100000:=by have:=HP.out.1;omega
      have hal:Below w5.heap.size w5 (w5.alloc (.cells #[.slice za l.length zc] 24)):=(Below.refl _ _).alloc (Nat.le_refl _) _
      obtain ⟨i0,hi,hz0,hz1,hz2⟩:=info_parts Z6g
      have hone:Z0 slc 1 (w5.alloc (.cells #[.slice za l.length zc] 24)) (.slice (some ⟨w5.heap.size,0,none⟩) 1 1) [⟨za,l.length,zc⟩]:=Z0.one (k:=1) (ea:=slc) ⟨za,l.length,zc⟩ 24
      obtain ⟨v',w',hr,ho6,hx6⟩:=Yl (P:=Tryz.prog) 45 45 i0 _ 24 Tryz.underlying45 hi hz0 hz1 hz2 rfl (by omega) TX Z0Q (ho1.alloc _) hone (by unfold maxLen;simp;omega) (by simp;omega) (by have:=B5.out.size;simp;omega)
      obtain ⟨sv,hsv⟩:=ho6.slv
      subst hsv
      have HR:Hid ((Builtin.append_ #[45,45] 45 #[.slice so.a so.n so.cap,.slice (some ⟨w5.heap.size,0,none⟩) 1 1]).run Tryz.prog (w5.alloc (.cells #[.slice za ql zc] 24))=.ok (.slice sv.a sv.n sv.cap) w'):=Jh (by rw[←hql];exact hr)
      have hB6:Below w.heap.size w w':=Ext.new (B5.out.trans (hal.mono B5.out.size)) hx6 (fun i hi _ e=>by have:=(ho1.blk i e).1;omega) (by have:=B5.out.size;simp;omega)
      have keep:∀ (u:Value) (m:List OpD) (bs:Nat),Own OpD.cells 26 68 bs w5 u m→Own OpD.cells 26 68 bs w' u m:=fun u m bs hu=>(hu.alloc _).ext hx6 (fun b hb e=>ZK (Zj hu hb) (Zj ho1 e) (by decide) rfl)
      have HM2:Hid (Vk w.heap.size w' sv.val (ls++[l])∧Below w.heap.size w w'):=Lib.hid ⟨Vk.snoc hs2 (fun i s m h1 h2=>keep _ _ _ (hs3 i s m h1 h2)) ho6 (keep _ _ _ (ho.mono B4.out.size)),hB6⟩
      rw[hql] at hl0 hzc ⊢
      clear hdl ho hb5 hne hT hbd hn0 hnl hgl hnn hcnt ho1 hs2 hs3 hsl2 hal hone hi hz0 hz1 hz2 hr ho6 hx6 hB6 keep hql
      go_wp2_with (at_builtin;refine YR rfl _ _ _ rfl rfl rfl HR.out ?_)
      go_roundg (q - (k+(11+body.length)))
      case measure=>rw[HG.out];omega
      case rel=>exact ⟨ls++[l],k+(11+body.length),sv,rfl,rfl,by simp,hkn,HP2,HM2⟩
    ·have HF:=Jh (TC HP.out HM.out (Z1d HT.out hdn) (B4.out.trans (hb5.mono B4.out.size)) (HB4.out.trans (hb5.mono HB4.out.size)))
     clear hdn hb5
     go_wp2_with fail
     go_ret2
     exact HF.out
   ·have hk2:¬ (kd.toNat:Int)=66:=fun e=>hk (by
     have:kd.toNat=(66:UInt8).toNat:=by show kd.toNat=66;omega
     exact UInt8.toNat_inj.1 this)
    have HF:=Jh (TC HP.out HM.out (Rl HT.out hk) B4.out HB4.out)
    clear hown hb4
    go_wp2_with fail
    go_ret2
    exact HF.out
  ·have HF:=Jh (TC HP.out HM.out (Uk ht) (HM.out.2.trans (hb4.mono HM.out.2.size)) hb4)
   clear ht hb4
   go_wp2_with fail
   go_ret2
   exact HF.out
theorem Z8d {P:Program} {o:Oper} {ρ:Operand→Value} {T T':TypeId} {x y:Operand} {A B:Array Value} {v:Value} {W:World} (ho:o.op=.binOp .neq T x y T') (hx:ρ x=.agg A) (hy:ρ y=.agg B)
  (hg:P.eqGuardType P.depth T=false) (h:(binOp .neq T (.agg A) (.agg B)).run P W=.ok v W):(execOp ρ o).run P W=.ok (.value v) W:=by
 unfold execOp
 simp only[ho,hx,hy,eqGuard,Sem.run_bind,Sem.run_pure,Result.andThen_ok]
 simp[hg,h,Result.andThen]
theorem Z6a {α:Type} {a b:List α} {k:Nat} {x:α} (h:a.take k=b.take k) (ha:a[k]?=some x) (hb:b[k]?=some x):a.take (k+1)=b.take (k+1):=by
 rw[List.take_add_one,List.take_add_one,h,ha,hb]
theorem Z22 (va vb:Value) (la lb:List OpD) (w:World) (ha:Z0 OpD.cells 26 w va la) (hb:Z0 OpD.cells 26 w vb lb) :
  Calls Tryz.prog 16 #[va,vb] w fun e w'=>e=.returned (.bool (decide (la=lb)))∧Below w.heap.size w w':=by
 obtain ⟨aa,ca,rfl,hca,hma,-⟩:=id ha
 obtain ⟨ab,cb,rfl,hcb,hmb,-⟩:=id hb
 unfold maxLen at hma hmb
 by_cases hl:la.length=lb.length
 ·obtain ⟨n,hna⟩:=Je (la.length)
  have hnb:lb.length=n:=by rw[←hl];exact hna
  rw[hna] at ha hca ⊢
  rw[hnb] at hb hcb ⊢
  have HA:=Lib.hid ha
  have HB:=Lib.hid hb
  have HL:=Jh (And.intro hna hnb)
  clear ha hb hl hna hnb
  go_enter Tryz.func16,Tryz.ntmps16
  go_wp2_with fail
  go_loopg [5] n (fun g kv wx=>∃ k:Nat,g=n - k∧kv=.int .i64 k∧k≤n∧Hid (la.take k=lb.take k∧Below w.heap.size w wx))
  case atStart=>exact ⟨0,rfl,rfl,Nat.zero_le _,Lib.hid ⟨rfl,Below.refl _ _⟩⟩
  case round =>
   obtain ⟨k,hg,rfl,hk,HR⟩:=hrel
   have HG:=Lib.hid hg
   clear hg
   by_cases hlt:k<n
   ·have hk1:(k:Int)<(n:Int):=by omega
    have hk0:(0:Int)≤(k:Int):=by omega
    obtain ⟨x,hx⟩:∃ x,la[k]?=some x:=⟨_,List.getElem?_eq_getElem (by rw[HL.out.1];exact hlt)⟩
    obtain ⟨y,hy⟩:∃ y,lb[k]?=some y:=⟨_,List.getElem?_eq_getElem (by rw[HL.out.2];exact hlt)⟩
    have hsa:=HA.out.below HR.out.2
    have hsb:=HB.out.below HR.out.2
    obtain ⟨b1,o1,rfl⟩:=hsa.some8 (by intro e;have h:=HL.out.1;rw[e] at h;simp at h;omega)
    obtain ⟨b2,o2,rfl⟩:=hsb.some8 (by intro e;have h:=HL.out.2;rw[e] at h;simp at h;omega)
    have hSW:(fun W:World=>Z0 OpD.cells 26 W (.slice (some ⟨b1,o1,none⟩) n ca) la∧Z0 OpD.cells 26 W (.slice (some ⟨b2,o2,none⟩) n cb) lb) wr.drew:=⟨hsa.below (Below.refl _ _).drew,hsb.below (Below.refl _ _).drew⟩
    have hq:=Z4z x y
    unfold OpD.val at hq
    have HX:=Jh (And.intro hx (And.intro hy hq))
    clear hsa hsb hx hy hq
    go_upto_region 6 with fail
    refine Z6 (fun W:World=>Z0 OpD.cells 26 W (.slice (some ⟨b1,o1,none⟩) n ca) la∧Z0 OpD.cells 26 W (.slice (some ⟨b2,o2,none⟩) n cb) lb) (fun _=>false) (by kernel_rfl) ?_
    have HR1:Hid (Below w.heap.size w wr.drew):=Lib.hid HR.out.2.drew
    generalize wr.drew=W1 at hSW HR1 ⊢
    refine J0 0 17 _ hSW ?_
    try simp only[Ja]
    refine J0 1 18 (.int .i64 k) hSW ?_
    try simp only[Ja]
    refine J0 2 19 (.pointer (some ⟨b1,o1+k*26,none⟩)) hSW ?_
    try simp only[Ja]
    refine JR 3 20 (.agg x.cells.toArray) rfl rfl hSW (fun W hW=>by exact Z8 rfl rfl (Xc hW.1 HX.out.1)) ?_
    try simp only[Ja]
    refine J0 4 21 _ hSW ?_
    try simp only[Ja]
    refine J0 5 22 (.int .i64 k) hSW ?_
    try simp only[Ja]
    refine J0 6 23 (.pointer (some ⟨b2,o2+k*26,none⟩)) hSW ?_
    try simp only[Ja]
    refine JR 7 24 (.agg y.cells.toArray) rfl rfl hSW (fun W hW=>by exact Z8 rfl rfl (Xc hW.2 HX.out.2.1)) ?_
    try simp only[Ja]
    refine JR 8 25 (.bool (!decide (x=y))) rfl rfl hSW (fun W hW=>by exact Z8d rfl rfl rfl Z6G (HX.out.2.2 W)) ?_
    try simp only[Ja]
    refine Z3 (by kernel_rfl) ?_ _
    clear hSW
    by_cases he:x=y
    ·subst he
     have HN:Hid (la.take (k+1)=lb.take (k+1)∧Below w.heap.size w W1):=Lib.hid ⟨Z6a HR.out.1 HX.out.1 HX.out.2.1,HR1.out⟩
     clear HR HR1
     simp only[decide_true,Bool.not_true]
     go_wp2_with fail
     go_roundg (n - (k+1))
     case measure=>rw[HG.out];omega
     case rel=>exact ⟨k+1,rfl,by simp,by omega,HN⟩
    ·have hne:decide (la=lb)=false:=decide_eq_false (by
      rintro rfl
      have h1:=HX.out.1.symm.trans HX.out.2.1
      exact he (Option.some.inj h1))
     have HNE:=Lib.hid hne
     clear hne
     simp only[decide_eq_false he,Bool.not_false]
     go_wp2_with fail
     go_ret
     exact ⟨by rw[HNE.out];rfl,HR1.out⟩
   ·obtain rfl:k=n:=by omega
    have hk1:¬ (k:Int)<(k:Int):=by omega
    have he:la=lb:=by
     have h:=HR.out.1
     rwa [List.take_of_length_le (by rw[HL.out.1];exact Nat.le_refl _),List.take_of_length_le (by rw[HL.out.2];exact Nat.le_refl _)] at h
    have hne:decide (la=lb)=true:=decide_eq_true he
    have HNE:=Lib.hid hne
    clear hne he
    go_wp2_with fail
    go_ret
    exact ⟨by rw[HNE.out];rfl,HR.out.2⟩
 ·have hl1:¬ (la.length:Int)=(lb.length:Int):=by omega
  have hne:decide (la=lb)=false:=decide_eq_false (fun e=>hl (by rw[e]))
  have HNE:=Lib.hid hne
  clear hne ha hb
  go_enter Tryz.func16,Tryz.ntmps16
  go_wp2_with fail
  go_ret
  exact ⟨by rw[HNE.out];rfl,Below.refl _ _⟩
theorem Z5R (v:Value) (l:List XB) (w:World) (hv:Z0 XB.cells 7 w v l) (hin:∀ x∈l,x.In w) (hg:Xe w):Calls Tryz.prog 10 #[v] w fun e w'=>e=.returned (.bool true)∧Below w.heap.size w w':=by
 have h0:0<w.heap.size:=Zq hg
 obtain ⟨xa,xc,rfl,hxc,hxm,-⟩:=id hv
 have HH:=Jh (And.intro hv (And.intro hin hg))
 clear hv hin hg
 go_enter Tryz.func10,Tryz.ntmps10
 go_wp2_with fail
 refine (Z4q _ (Nat.le_refl _)).mono ?_
 rintro e w1 ⟨D,rfl,hd,hb,-⟩
 have HD:=Jh (And.intro hd (And.intro hb (HH.out.2.2.below hb)))
 clear hd hb
 go_wp2_with fail
 refine (R5 HD.out.1 HD.out.2.1.size Rv (by omega) (by decide) HD.out.2.2 h0).mono ?_
 rintro e w2 hp
 unfold Z0q at hp
 obtain ⟨lb,D2,A2,vo,L0,rfl,hop,ht,hl⟩:=hp
 obtain ⟨f,ld0,hst,hflat,hld,-⟩:=hop.steady Z7u (by decide) Z38 Z8c
 have hld0:=hld rfl
 subst hld0
 obtain rfl:L0=[]:=hflat.symm
 have HS:=Lib.hid hst
 have S2:=Jh (hop.small Rv (by decide) Z38 (fun f hf=>(by cases hf)))
 have hg2:=ht.errTy HD.out.1 h0 HD.out.2.2
 have HT:=Jh (And.intro ht (And.intro hl hg2))
 have z2:=Nat.le_trans HD.out.2.1.size ht.ext.size
 have HPB:=Lib.hid ht.pb
 clear hop ht hl hst hflat hld hg2
 go_wp2_with fail
 refine (Z56 _ HT.out.2.2).mono ?_
 rintro e w3 ⟨rfl,hb3⟩
 have T3:=Jh (HT.out.1.trans (Zl.below HT.out.1.is_ hb3))
 have L3:=Jh ((HT.out.2.1.below hb3).mono HD.out.2.1.size)
 have G3:=Jh (HT.out.2.2.below hb3)
 have z3:=Nat.le_trans z2 hb3.size
 have B3:=Jh (T3.out.frame HD.out.1 HD.out.2.1 (Nat.le_refl _) HD.out.2.1.size)
 clear hb3
 have hcw:=Z5s T3.out.is_ z3 L3.out HS.out S2.out (by omega) G3.out h0 _ l (HH.out.1.below B3.out) (fun x hx=>(HH.out.2.1 x hx).below B3.out) (fun x hx hne b o n cap e=>Z0.lt9 (ea:=OpD.cells) (by rw[←e];exact (HH.out.2.1 x hx).l) (fun x=>by rw[OpD.len];omega) hne) (fun b o n cap hne e=>Z0.lt9 (ea:=XB.cells) (by rw[←e];exact HH.out.1) (fun x=>by rw[XB.len];omega) hne)
 rw[show D2.pb=D.pb from HPB.out] at hcw
 have HCW:=Lib.hid hcw
 clear hcw
 go_wp2_with fail
 refine HCW.out.mono ?_
 rintro e w4 hp
 unfold Tt at hp
 obtain ⟨v4,ms,D4,A4,vo4,f4,ld,lu,rfl,-,hm,-⟩:=hp
 have HM:=Lib.hid hm
 have z4:=Nat.le_trans z3 hm.i.lt.ext.size
 have hlen:=hm.len
 have HGL:=Jh (Ve.of hm.i.st)
 have HPF:=Jh (Vj (ld++lu).flatten)
 have HPN:=Jh (Z1h (ld++lu).flatten)
 obtain ⟨L,hL⟩:=Je ((ld++lu).flatten)
 have HSZ:Hid ((Ze (YC L)).length≤1048576):=Jh (by
  have h5:=Z0t HGL.out
  unfold chN at h5
  rw[hL] at h5 hlen
  omega)
 have HL:=Lib.hid hL
 have T4:=Lib.hid hm.i.lt
 rw[hL] at hlen HGL HPF HPN T4
 have B4:=Jh (T4.out.frame T3.out.is_ L3.out B3.out (Nat.le_refl _) z3)
 clear hm hL
 go_wp2_with fail
 refine (UM T4.out.log (by omega)).mono ?_
 rintro e w5 ⟨v5,rfl,ho5,hb5⟩
 have T5:=Jh (T4.out.below hb5)
 have HO5:=Lib.hid ho5
 have z5:=Nat.le_trans z4 hb5.size
 obtain ⟨qn,hqn⟩:=Je (L.length)
 obtain ⟨a5,c5,hv5,-,-,-⟩:=ho5.slice OpD.len
 rw[hqn] at hv5
 subst hv5
 have HQN:=Lib.hid hqn
 have G5:=Jh (HM.out.i.err.below hb5)
 clear ho5 hb5 hqn
 go_wp2_with fail
 refine (SU T5.out.disk z5 T5.out.log HM.out.i.sm (by omega) (by have:=HM.out.i.st.two.len;omega) (by omega) HGL.out HSZ.out).mono ?_
 rintro e w6 hp
 unfold QI at hp
 obtain ⟨rfl,fb,D6,hfb,ht6⟩:=hp
 have hst6:=Uf HM.out.i.st.hist HM.out.i.st.now HM.out.i.st.inj HM.out.i.st.two hfb (XX HGL.out)
 have hsm6:=SK HM.out.i.sm (by have:=HM.out.i.st.two.len;omega) HM.out.i.st.two.1 hfb HSZ.out
 obtain ⟨A6,hA6⟩:=Je (Wy fb (Ze (YC L)) A4)
 rw[hA6] at hst6 hsm6 ht6
 have S6:=Lib.hid hst6
 have M6:=Lib.hid hsm6
 have T6:=Jh (T5.out.trans ht6)
 have z6:=Nat.le_trans z5 ht6.ext.size
 have G6:=Jh (ht6.errTy T5.out.disk T5.out.log h0 G5.out)
 have HO6:Hid (Own OpD.cells 26 68 w4.heap.size w6 (.slice a5 qn c5) L):=Jh (HO5.out.ext ht6.ext (fun b hb e=>by
  have h5:=(HO5.out.blk b hb).1
  rcases e with e|e|e
  ·have:=(T4.out.disk.foot e).2.1;omega
  ·have:=T4.out.log.b.lt;omega
  ·have:=(T4.out.log.o.blk b e).2;omega))
 have hby:Zu (A6.fs fb)=Ze (YC L):=by rw[hst6.pcs.bytes,List.append_nil]
 have hrd:=Qv T6.out.disk ZL M6.out (by omega)
 rw[show D6.pb=D.pb from T6.out.pb.trans HPB.out] at hrd
 have HRD:=Lib.hid hrd
 have HBY:=Lib.hid hby
 clear hst6 hsm6 ht6 hA6 hfb hrd hby
 go_wp2_with fail
 refine HRD.out.mono ?_
 rintro e w7 hp
 unfold SG at hp
 rcases hp with ⟨hno,_⟩|⟨g,v7,hg7,rfl,ho7,hb7⟩
 ·rw[S6.out.lg] at hno;cases hno
 rw[S6.out.lg] at hg7
 cases hg7
 rw[HBY.out] at ho7
 have T7:=Jh (T6.out.below hb7)
 have G7:=Jh (G6.out.below hb7)
 have z7:=Nat.le_trans z6 hb7.size
 have HO7:=Jh (And.intro (HO6.out.below1 hb7) ho7)
 obtain ⟨a7,c7,hv7,-,-,-⟩:=ho7.slice Z7
 obtain ⟨bn,hbn⟩:=Je ((Ze (YC L)).length)
 rw[hbn] at hv7
 subst hv7
 have HBN:=Lib.hid hbn
 have hop0:=R5 T7.out.disk z7 M6.out (by omega) (by have:=S6.out.two.len;omega) G7.out h0
 rw[show D6.pb=D.pb from T6.out.pb.trans HPB.out] at hop0
 have HOP:=Lib.hid hop0
 clear ho7 hb7 hbn hop0
 go_wp2_with fail
 refine HOP.out.mono ?_
 rintro e w8 hp
 unfold Z0q at hp
 obtain ⟨lb8,D8,A8,vo8,L8,rfl,hop,ht8,hl8⟩:=hp
 obtain ⟨f8,ld8,hst8,hflat,-,hld⟩:=hop.steady S6.out.hist S6.out.now S6.out.inj S6.out.two
 have hld8:=hld fb S6.out.lg
 rw[HBY.out,(Tu (XX HGL.out)).1] at hld8
 subst hld8
 rw[HPF.out] at hflat
 subst hflat
 have T8:=Jh (T7.out.turn ht8)
 have L8:=Lib.hid hl8
 have z8:=Nat.le_trans z7 ht8.ext.size
 have hdt:¬ Wq (some 68):=Z05
 have HO8:Hid (Own OpD.cells 26 68 w4.heap.size w8 (.slice a5 qn c5) L∧Own u8c 1 5 w6.heap.size w8 (.slice a7 bn c7) (Ze (YC L))):=Lib.hid ⟨HO7.out.1.ext ht8.ext (fun x hx hf=>Z05 (by rw[←Zj HO7.out.1 hx];exact T7.out.disk.dtag hf)),HO7.out.2.ext ht8.ext (fun x hx hf=>Z0k (by rw[←Zj HO7.out.2 hx];exact T7.out.disk.dtag hf))⟩
 clear hop ht8 hl8 hst8 hld hdt
 go_wp2_with fail
 refine (UM T8.out.log (by omega)).mono ?_
 rintro e w9 ⟨v9,rfl,ho9,hb9⟩
 have T9:=Jh (T8.out.below hb9)
 have L9:=Jh (L8.out.below hb9)
 have z9:=Nat.le_trans z8 hb9.size
 have HO9:=Jh (And.intro ho9 (And.intro (HO8.out.1.below1 hb9) (HO8.out.2.below1 hb9)))
 obtain ⟨sv9,hsv9⟩:=ho9.slv
 subst hsv9
 clear ho9 hb9
 go_wp2_with fail
 refine (Z22 _ _ L L _ (HO9.out.1.slice OpD.len) (HO9.out.2.1.slice OpD.len)).mono ?_
 rintro e w10 ⟨rfl,hb10⟩
 rw[decide_eq_true (rfl:L=L)]
 have T10:=Jh (T9.out.below hb10)
 have L10:=Jh (L9.out.below hb10)
 have HO10:=Jh (And.intro (HO9.out.2.1.below1 hb10) (HO9.out.2.2.below1 hb10))
 clear hb10
 go_wp2_with fail
 refine (UM L10.out (by omega)).mono ?_
 rintro e w11 ⟨v11,rfl,ho11,hb11⟩
 have T11:=Jh (T10.out.below hb11)
 have L11:=Jh (L10.out.below hb11)
 have HO11:=Jh (And.intro ho11 (And.intro (HO10.out.1.below1 hb11) (HO10.out.2.below1 hb11)))
 obtain ⟨sv11,hsv11⟩:=ho11.slv
 subst hsv11
 clear ho11 hb11
 go_wp2_with fail
 refine (Z22 _ _ L L _ (HO11.out.1.slice OpD.len) (HO11.out.2.1.slice OpD.len)).mono ?_
 rintro e w12 ⟨rfl,hb12⟩
 rw[decide_eq_true (rfl:L=L)]
 have T12:=Jh (T11.out.below hb12)
 have L12:=Jh (L11.out.below hb12)
 have HO12:=Jh (HO11.out.2.2.below1 hb12)
 clear hb12
 go_wp2_with fail
 refine (Z5X _ (Ze (YC L)) _ (HO12.out.slice Z7) HSZ.out).mono ?_
 rintro e w13 hp
 unfold Rp at hp
 obtain ⟨vr,rfl,hbat,hb13⟩:=hp
 rw[(Tu (XX HGL.out)).1] at hbat
 rw[(Tu (XX HGL.out)).2,HBN.out]
 obtain ⟨ss,k1,k2,-⟩:=hbat
 obtain ⟨ra,rc,hvr,-,-,-⟩:=k1.slice TX
 rw[k2,HPN.out,HQN.out] at hvr
 subst hvr
 have T13:=Jh (T12.out.below hb13)
 have L13:=Jh (L12.out.below hb13)
 clear k1 k2 hb13 ss
 have hq1:qn≤4800:=by have:=HQN.out;omega
 have w1':IntKind.i64.wrap ((qn:Int)+200)=(qn:Int)+200:=IntWalk.i64_in _ (by omega)
 have w2':IntKind.i64.wrap ((qn:Int)+200 - 1)=(qn:Int)+199:=by rw[IntWalk.i64_in _ (by omega)];omega
 have w3':(qn:Int)+200 - 1=(qn:Int)+199:=by omega
 have w4':((qn:Int)+199).tdiv 200=((chN qn:Nat):Int):=by
  unfold chN
  rw[Int.tdiv_eq_ediv_of_nonneg (by omega)]
  omega
 have w5':IntKind.i64.wrap ((chN qn:Nat):Int)=((chN qn:Nat):Int):=IntWalk.i64_in _ (by unfold chN;omega)
 go_wp2_with fail
 refine (Ud T13.out.log).mono ?_
 rintro e w14 ⟨rfl,e14⟩
 have e14':=e14.symm
 subst e14'
 clear e14
 rw[HQN.out]
 go_wp2_with fail
 refine (Ud L13.out).mono ?_
 rintro e w15 ⟨rfl,e15⟩
 have e15':=e15.symm
 subst e15'
 clear e15
 rw[HQN.out]
 go_wp2_with fail
 go_ret
 exact ⟨rfl,T13.out.frame T3.out.is_ L3.out B3.out (Nat.le_refl _) z3⟩
end Go.Proofs.YtgmdimbiipemhaaGreatDoor
namespace Go.Proofs.YtgmdimbiipemhaaGreatDoor
open Go.ChangeShapes Go.WideShapes Go.ChangeAt Go.RowKit
def Z7v : List (String × DataW Unit) := [("errors.errorType", Rows.laid_errors_errorType)]
theorem Tryz.et : Tryz.prog.globalNamed "errors.errorType" = some 0 := by kernel_rfl
theorem Tryz.rt : (Tryz.prog.cutTypes.find? (·.1 == "internal/reflectlite.rtype")).map (·.2) = some 234 := by kernel_rfl
theorem Tryz.oneRow:((List.range Tryz.prog.types.size).filter fun t=>Tryz.prog.rowNamed t [101,114,114,111,114])=[94]:=by kernel_rfl
noncomputable def Z5u (os:Os):World :=
 let w0:=World.holding Tryz.prog os ⟨#[],#[],[]⟩
 { w0 with heap:=w0.heap.modify 0 fun
   | .cells _ t frozen=>.cells #[.iface 234 (.agg #[.pointer (some ⟨5,94,none⟩)])] t frozen
   | o=>o }
def VP : List (String × DataW Unit) := [("unicode/utf8.acceptRanges", Rows.laid_unicode_utf8_acceptRanges), ("bytes.ErrTooLarge", Rows.laid_bytes_ErrTooLarge), ("unicode/utf8.first", Rows.laid_unicode_utf8_first)]
def UK : List (String × DataW Unit) := [("unicode/utf8.acceptRanges", Rows.laid_unicode_utf8_acceptRanges), ("errors.errorType", Rows.laid_errors_errorType), ("bytes.ErrTooLarge", Rows.laid_bytes_ErrTooLarge), ("unicode/utf8.first", Rows.laid_unicode_utf8_first)]
theorem Z06:(UK.filter fun x=>x.2.handleName?.isNone)=VP:=by kernel_rfl
theorem Z0b:(UK.filter fun x=>x.2.handleName?.isSome)=Z7v:=by kernel_rfl
theorem Z0S {W:World} (h:laidMetH Tryz.prog UK W):Xe W:=by
 have h2:handlesMet Tryz.prog Z7v W:=by
  unfold laidMetH at h
  rw[Z0b,Z06] at h
  exact h.2
 obtain ⟨name,u,ty,e1,e2,e3,e4,e5⟩:=h2 _ (List.mem_singleton.2 rfl)
 have en:name=[101,114,114,111,114]:=(Option.some.inj e1).symm
 subst en
 obtain rfl:=Option.some.inj (Tryz.rt.symm.trans e2)
 have hm:ty∈(List.range Tryz.prog.types.size).filter fun t=>Tryz.prog.rowNamed t [101,114,114,111,114]:=List.mem_filter.2 ⟨List.mem_range.2 e3,e4⟩
 rw[Tryz.oneRow] at hm
 obtain rfl:=List.mem_singleton.1 hm
 have hh:typeHandle Tryz.prog 94=.pointer (some ⟨5,94,none⟩):=by kernel_rfl
 rw[hh] at e5
 unfold Xe
 simpa using World.var?_cell Tryz.et e5 0
noncomputable def RD (os:Os):World:=(Z5u os).layVars Tryz.prog VP
theorem Z4C (os:Os):(RD os).os=os:=World.layVars_os _ _ _
theorem Z3P (os:Os) (args:Array Value):laidMetH Tryz.prog UK ((RD os).forCall (fun _ _=>0) ⟨#[],args,[]⟩).memory:=by
 refine laidMetH_of_parts ?_ (by rw[Z0b];kernel_rfl)
 rw[Z06]
 have e1:(VP.filter fun x=>(VP.map (·.1)).contains x.1)=VP:=List.filter_eq_self.2 fun x hx=>List.contains_iff_mem.2 (List.mem_map.2 ⟨x,hx,rfl⟩)
 have e2:(VP.filter fun x=>!(VP.map (·.1)).contains x.1)=[]:=List.filter_eq_nil_iff.2 fun x hx=>by rw[List.contains_iff_mem.2 (List.mem_map.2 ⟨x,hx,rfl⟩)];simp
 have h:laidMet Tryz.prog VP (RD os):=laidMet_layVars (w0:=Z5u os) (VP.map (·.1)) [] (by rw[e1];rfl) (by rw[e1];kernel_rfl) (by rw[e1];kernel_rfl) (by rw[e2];exact LaidIn.none)
 exact h.of_heap (by simp[World.memory,World.forCall,Input.heap])
end Go.Proofs.YtgmdimbiipemhaaGreatDoor
namespace Go.Proofs.YtgmdimbiipemhaaGreatDoor
open Go Go.ChangeShapes Go.WideShapes Go.ChangeAt Go.RowKit
theorem Qy (os:Os) (started:os.Started) (H:Type) (enc:TypeId × Value→H) :
  ReturnsInHanded {} Tryz.checked os 10 .any (fun w args=>(Rows.oplogAnewSpec.pre enc Tryz.prog Tryz.f10 [] false w args∧laidMetH Tryz.prog UK w)∧sizedMet enc Tryz.prog Tryz.f10 (OpenSpec.ofChange Rows.oplogAnewSpec) false w args)
   (Rows.oplogAnewSpec.post enc Tryz.prog Tryz.f10 false true false false):=by
 refine returnsInHanded_of_change_and (C:=Tryz.checked) (X:=fun w _=>laidMetH Tryz.prog UK w) (fun _ _ _ hh h=>h.of_heap hh) Tryz.own started (by kernel_rfl) Tryz.func10
  (ChangeSpec.witness_shaped (enc:=enc) (C:=Tryz.checked) (os:=os) (X:=fun w _=>laidMetH Tryz.prog UK w) false (RD os) #[.slice none 0 0] 8 (Z4C os) (World.shaped_of_ZipB (by kernel_rfl) (by kernel_rfl)) (by kernel_rfl) (by kernel_rfl) (by kernel_rfl) (Z3P os _)) ?_
 intro W base args ds gs before hval0 hW _ _ hL _
 have hval:∀ (j:Nat) t v,Tryz.f10.params[j]?=some t→args[j]?=some v→Value.okWide Tryz.prog W .any base t v:=hval0
 have hW':=hW
 obtain ⟨p,q,hA0,hV,rfl,hfz,hnd⟩:=hW
 have hA:DataW.TrodAll enc Tryz.prog W 0 (fun _=>true) true Tryz.f10.params.toList args.toList ds p:=hA0
 rw[Tryz.params10] at hA hval
 obtain ⟨v0,vs0,d0,ds0,p0,q0,hargs,rfl,rfl,h0,r0⟩:=trodAll_cons hA
 obtain ⟨rfl,rfl,rfl⟩:=trodAll_nil r0
 obtain rfl:args=#[v0]:=by cases args;simp_all
 obtain ⟨rfl,rfl⟩:=trodVars_none hV
 have k0:=h0
 have lt0:∀ x∈p0,x.block<W.heap.size:=by obtain ⟨m,hm⟩:=k0;exact DataW.trod_lt m _ _ _ hm
 obtain ⟨l,hv0,hin0⟩:=Z3X (hval 0 71 v0 rfl rfl) h0
 clear hA0 hval0
 refine (Z5R v0 l W hv0 hin0 (Z0S hL)).mono fun e W' ⟨he,bel⟩=>?_
 subst he
 exact ⟨_,rfl,_,_,_,[],_,[],hW',trodAll_mk1 (shut_bool Tryz.underlying4 _),(trodAll_cons_mk (Below.trod Tryz.laidOut (by kernel_rfl) (of_decide_eq_true (by kernel_rfl)) k0 bel lt0) trodAll_mk0),rfl,bel.frame _,fun h=>by cases h⟩
theorem Z3x:(Rows.oplogAnewRow.inPlace == Tryz.prog.inPlace 10)=true:=by kernel_rfl
theorem Z2v:(Rows.oplogAnewRow.unfollowed == Tryz.prog.unfollowed 10)=true:=by kernel_rfl
theorem Z2K:(Rows.oplogAnewRow.recurses == Tryz.prog.recurses 10)=true:=by kernel_rfl
theorem Z2T:(Rows.oplogAnewRow.named == Tryz.prog.varsNamed 10)=true:=by kernel_rfl
theorem Z0U:joinedFacts Tryz.prog 10 Tryz.f10 Rows.oplogAnewSpec Rows.oplogAnewRow=true:=by
 unfold joinedFacts
 rw[Z3x,Z2v,Z2K,Z2T]
 kernel_rfl
theorem Z00:Rows.OplogAnewSaid :=
 OpenClaim.holds_of_wide 10 Tryz.f10 rfl rfl rfl rfl rfl rfl rfl ⟨rfl,rfl,rfl,rfl,rfl⟩ rfl rfl rfl rfl rfl (by kernel_rfl) Tryz.func10 Z0U
  (of_decide_eq_true (by kernel_rfl)) (by unfold Func.isWrapper;first|(rw[if_pos (by decide +kernel)];kernel_rfl)|(rw[if_neg (by decide +kernel)];exact ⟨rfl,rfl⟩))
  (fun os started H enc _=>Qy os started H enc)
theorem oplogAnew_card:Rows.OplogAnewCardSaid :=
 Claim7.holds_tied_plain_at .later [] [.data,.handle,.sentinel,.pinned] true Rows.oplogAnewCard.stood.harness true
  Z00 (fun _ h=>by cases h) (by kernel_rfl) (fun _ h=>by cases h) oplogAnew_row_tie rfl ⟨rfl,rfl⟩ (by kernel_rfl) rfl
  (fun f fn hf hfn=>by
   obtain rfl : f = 10 := Option.some.inj ((show Tryz.prog.funcNamed "stemma/stemmalaw09.OplogAnew" = some 10 by kernel_rfl).symm.trans hf) |>.symm
   obtain rfl:fn=Tryz.f10:=(Option.some.inj (Tryz.func10.symm.trans hfn)).symm
   exact ⟨by kernel_rfl,fun j t ht=>by
    rw[Tryz.params10] at ht
    have hm:t∈[71]:=by simpa using Array.mem_of_getElem? ht
    have hall:([71].all fun u=>!Tryz.prog.wantsStandIn u)=true:=by kernel_rfl
    exact (show Tryz.prog.wantsStandIn t=false by simpa using List.all_eq_true.1 hall t hm)⟩)
  (by kernel_rfl)
#print axioms oplogAnew_card
end Go.Proofs.YtgmdimbiipemhaaGreatDoor
