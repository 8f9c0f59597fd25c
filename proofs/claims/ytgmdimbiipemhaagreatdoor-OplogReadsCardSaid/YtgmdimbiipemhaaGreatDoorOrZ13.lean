/- OplogReads, part 13 of what the proof leans on (made short by a program). -/
import Derived.Test.YtgmdimbiipemhaaGreatDoorOrZ12
import Derived.Lib.AppendZerosOnto
set_option linter.unusedSimpArgs false
set_option linter.unusedVariables false
set_option linter.unusedSectionVars false
set_option maxRecDepth 20000
set_option maxHeartbeats 30000000
namespace Go.Proofs.YtgmdimbiipemhaaGreatDoor
open Go.RowKit Go.Deep
theorem Z35 (v:Value) (l:List OpD) (w:World) (h:Z0 OpD.cells 26 w v l) (hwf:∀ x∈l,x.wf) (hn:l.length≤1000000):Calls Tryz.prog 61 #[v] w fun e w'=>Z0x w l e w':=by
 obtain ⟨a,cap,rfl,hcap,hmax,-⟩:=id h
 unfold maxLen at hmax
 have HH:=Lib.hid h
 have HWF:=Lib.hid hwf
 clear h hwf
 by_cases hbig:200<l.length
 ·have hb1:(200:Int)<(l.length:Int):=by omega
  go_enter Tryz.func61,Tryz.ntmps61
  go_wp2_with fail
  go_ret2
  exact .inr (.inl ⟨hbig,rfl,Below.refl _ _⟩)
 have hb1:¬ (200:Int)<(l.length:Int):=by omega
 go_enter Tryz.func61,Tryz.ntmps61
 go_wp2_with fail
 go_loopg [4] l.length (fun g kv wx=>∃ k:Nat,g=l.length - k∧kv=.int .i64 k∧k≤l.length∧Hid ((∀ x∈l.take k,x.right=true)∧Below w.heap.size w wx))
 case atStart=>exact ⟨0,rfl,rfl,Nat.zero_le _,Lib.hid ⟨fun x hx=>by simp at hx,Below.refl _ _⟩⟩
 case round =>
  obtain ⟨k,hg,rfl,hk,HR⟩:=hrel
  have HG:=Lib.hid hg
  clear hg
  by_cases hlt:k<l.length
  ·have hk1:(k:Int)<(l.length:Int):=by omega
   have hk0:(0:Int)≤(k:Int):=by omega
   obtain ⟨x,hx⟩:∃ x,l[k]?=some x:=⟨_,List.getElem?_eq_getElem hlt⟩
   have hsl:=HH.out.below HR.out.2
   obtain ⟨b0,o0,rfl⟩:=hsl.some8 (by rintro rfl;simp at hlt)
   have HLD:=Jh (X9 hsl hx)
   have HX:=Lib.hid hx
   have HFT:Hid x.fits:=Jh (HWF.out x (List.mem_of_getElem? hx)).1
   clear hsl hx
   go_wp2_with ((with_reducible_and_instances refine Za (o:=⟨some 18,_,_,_,_,_⟩) (v:=.agg x.cells.toArray) ?_ ?_ ?_);rfl;exact Z9 rfl rfl HLD.out)
   refine (Z3C x _ HFT.out).mono ?_
   rintro e w3 ⟨rfl,b3⟩
   have HB3:Hid (Below w.heap.size w w3):=Jh (HR.out.2.trans (b3.mono HR.out.2.size))
   clear b3 HLD
   cases hr:x.right with
   | false =>
    have HBAD:Hid (∃ x∈l,x.right=false):=Lib.hid ⟨x,List.mem_of_getElem? HX.out,hr⟩
    clear hr
    go_wp2_with fail
    go_ret2
    exact .inr (.inr ⟨by omega,HBAD.out,rfl,HB3.out⟩)
   | true =>
    have HN:Hid ((∀ y∈l.take (k+1),y.right=true)∧Below w.heap.size w w3):=Lib.hid ⟨fun y hy=>by
     rw[List.take_add_one,HX.out,Option.toList_some] at hy
     rcases List.mem_append.1 hy with hy|hy
     ·exact HR.out.1 y hy
     ·rw[List.mem_singleton.1 hy];exact hr,HB3.out⟩
    clear hr HR HB3
    go_wp2_with fail
    go_roundg (l.length - (k+1))
    case measure=>rw[HG.out];omega
    case rel=>exact ⟨k+1,rfl,by simp,by omega,HN⟩
  ·obtain rfl:k=l.length:=by omega
   have hk1:¬ (l.length:Int)<(l.length:Int):=by omega
   have HALL:Hid (∀ x∈l,x.right=true):=Jh (by have:=HR.out.1;rwa [List.take_length] at this)
   have HB:Hid (Below w.heap.size w wr):=Lib.hid HR.out.2
   clear hlt HR hk
   go_wp2_with fail
   refine (Z63 _ l _ (HH.out.below HB.out) HWF.out (by omega) HALL.out).mono ?_
   rintro e w5 ⟨v5,rfl,ho5,hb5⟩
   have HZ:Hid (Own u8c 1 5 w.heap.size w5 v5 (Xj l)∧Below w.heap.size w w5):=Lib.hid ⟨ho5.mono HB.out.size,HB.out.trans (hb5.mono HB.out.size)⟩
   clear ho5 hb5
   obtain ⟨⟨qa,qn,qc⟩,eq⟩:=HZ.out.1.sl
   dsimp only at eq
   subst eq
   go_wp2_with fail
   go_ret2
   exact .inl ⟨by omega,HALL.out,_,rfl,HZ.out.1,HZ.out.2⟩
theorem Z3J (o:OpD) {f g:Nat→Int} (h:∀ c,c<21→f c=g c):o.withF f=o.withF g:=by
 unfold OpD.withF
 rw[h 0 (by omega),h 1 (by omega),h 2 (by omega),h 3 (by omega),h 4 (by omega),h 5 (by omega),h 6 (by omega),h 7 (by omega),h 8 (by omega),h 9 (by omega),h 10 (by omega),h 11 (by omega),h 12 (by omega),h 13 (by omega),h 14 (by omega),h 15 (by omega),h 16 (by omega),h 17 (by omega),h 18 (by omega),h 19 (by omega),h 20 (by omega)]
def ZC (n:Nat) (L:List (List Int)):List OpD:=Xf L n (List.replicate n zOp)
theorem ZV (n:Nat) (L:List (List Int)):(ZC n L).length=n:=by unfold ZC;rw[Ub,List.length_replicate]
theorem T0 {n i:Nat} (L:List (List Int)) (hi:i<n):(ZC n L)[i]?=some (zOp.withF (WR L i)):=by
 unfold ZC
 rw[Z5Q,Vo _ hi,List.getElem?_replicate_of_lt hi]
 rfl
theorem Z6V (n:Nat):ZC n []=List.replicate n zOp:=by
 apply List.ext_getElem?
 intro i
 by_cases hi:i<n
 ·rw[T0 _ hi,List.getElem?_replicate_of_lt hi]
  rfl
 ·rw[List.getElem?_eq_none (by rw[ZV];omega),List.getElem?_eq_none (by rw[List.length_replicate];omega)]
theorem Qj {n i:Nat} {L:List (List Int)} {V:List Int} {y:Int} (hi:i<n) (hy:V[i]?=some y) (hL:L.length<21):(ZC n (L++[V]))[i]?=some ((zOp.withF (WR L i)).putF L.length y):=by
 rw[T0 _ hi]
 congr 1
 unfold OpD.putF
 rw[show ∀ f g,(zOp.withF f).withF g=zOp.withF g from fun _ _=>rfl]
 refine Z3J zOp fun c hc=>?_
 unfold WR
 by_cases e:c=L.length
 ·subst e
  rw[if_pos rfl,Z16,List.getD_eq_getElem?_getD,hy]
  rfl
 ·rw[if_neg e]
  rw[Z1N _ _ hc]
  by_cases h:c<L.length
  ·rw[Z13 _ _ _ h]
  ·have e1:(L++[V]).getD c []=[]:=by rw[List.getD_eq_getElem?_getD,List.getElem?_eq_none (by simp;omega)];rfl
   have e2:L.getD c []=[]:=by rw[List.getD_eq_getElem?_getD,List.getElem?_eq_none (by omega)];rfl
   rw[e1,e2]
def YZ {α:Type} (a b:List α) (i:Nat):List α:=a.take i++b.drop i
theorem R0 {α:Type} (a b:List α):YZ a b 0=b:=by simp[YZ]
theorem Qo {α:Type} {a b:List α} (h:a.length=b.length) {i:Nat} (hi:i≤b.length):(YZ a b i).length=b.length:=by simp[YZ];omega
theorem Qe {α:Type} {a b:List α} (h:a.length=b.length):YZ a b b.length=a:=by simp[YZ,←h]
theorem Z0y {α:Type} {a b:List α} (h:a.length=b.length) {i:Nat} {x:α} (hx:b[i]?=some x):(YZ a b i)[i]?=some x:=by
 have hi:=(List.getElem?_eq_some_iff.1 hx).1
 unfold YZ
 rw[List.getElem?_append_right (by simp;omega),List.length_take,Nat.min_eq_left (by omega),Nat.sub_self,List.getElem?_drop]
 exact hx
theorem Rd {α:Type} {a b:List α} (h:a.length=b.length) {i:Nat} {x:α} (hx:a[i]?=some x):(YZ a b i).set i x=YZ a b (i+1):=by
 have hi:=(List.getElem?_eq_some_iff.1 hx).1
 unfold YZ
 rw[List.set_append_right _ _ (by simp;omega),List.length_take,Nat.min_eq_left (by omega),Nat.sub_self,List.take_add_one,hx,Option.toList_some,List.append_assoc]
 congr 1
 have:b.drop i=b[i] :: b.drop (i+1):=List.drop_eq_getElem_cons (by omega)
 rw[this]
 rfl
theorem SL {base g cap n:Nat} {W:World} {l:List OpD} (h:Own OpD.cells 26 68 base W (.slice (some ⟨g,0,none⟩) n cap) l) (hn:l.length=n) {i:Nat} (hi:i<n) (x:OpD) :
  ∃ W',(Instr.storeAt 68 (.pointer (some ⟨g,i*26,none⟩)) (.agg x.cells.toArray)).run Tryz.prog W=.ok () W'∧Own OpD.cells 26 68 base W' (.slice (some ⟨g,0,none⟩) n cap) (l.set i x)∧Ext (·=g) W W':=by
 subst hn
 haveI:Inhabited OpD:=⟨zOp⟩
 obtain ⟨hs,hb,hc,hm⟩:=h.slab OpD.len
 obtain ⟨W',h1,h2,h3⟩:=hs.store OpD.len OpD.one XS hi x
 refine ⟨W',h1,?_,h3⟩
 have h4:=h2.own OpD.len (by omega) hb hc hm
 have e:(List.range l.length).map (upd (fun i=>l[i]!) i x)=l.set i x:=by
  apply List.ext_getElem?
  intro j
  by_cases hj:j<l.length
  ·rw[List.getElem?_map,List.getElem?_range hj,Option.map_some,List.getElem?_set]
   by_cases e:i=j
   ·subst e
    rw[if_pos rfl,if_pos hj,Z2O]
   ·rw[if_neg e,Z1F _ _ (Ne.symm e),List.getElem?_eq_getElem hj,getElem!_pos l j hj]
  ·rw[List.getElem?_eq_none (by simp;omega),List.getElem?_eq_none (by simp;omega)]
 rw[e] at h4
 exact h4
theorem Qn {α β:Type} {ea:α→List Value} {q:Nat} {t:TypeId} {base base2 g:Nat} {W W':World} {v v2:Value} {m:List α} {eb:β→List Value} {q2:Nat} {t2:TypeId} {l:List β} (h:Own ea q t base W v m) (h2:Own eb q2 t2 base2 W v2 l) (ht:t≠t2) (hg:v2.ownBlock=some g) (hx:Ext (·=g) W W'):Own ea q t base W' v m :=
 h.ext hx (fun b hb e=>by
  obtain ⟨c1,g1⟩:=h.tag hb
  obtain ⟨c2,g2⟩:=h2.tag hg
  rw[e,g2] at g1
  cases g1
  exact ht rfl)
theorem Z2u (v:Value) (b:List UInt8) (w:World) (h:Z0 u8c 1 w v b):Calls Tryz.prog 15 #[v] w fun e w'=>Rz w b e w':=by
 obtain ⟨a,cap,rfl,hcap,hmax,-⟩:=id h
 unfold maxLen at hmax
 have HH:=Lib.hid h
 clear h
 cases hv:ZD b with
 | none =>
  have hR:=Yr (VO.1 hv)
  have HBAD:=Jh (Z00 hv)
  clear hv
  go_enter Tryz.func15,Tryz.ntmps15
  go_wp2_with fail
  refine (Wa _ b _ HH.out).mono ?_
  rintro e w5 ⟨rfl,b5⟩
  have HB5:=Lib.hid b5
  rw[hR]
  clear hR b5
  go_wp2_with fail
  go_ret2
  exact .inr ⟨HBAD.out,rfl,HB5.out⟩
 | some n =>
  have hR:=XW (ZE.1 hv)
  have HV:=Lib.hid hv
  have hpb:(Z5 n).length≤b.length:=(ZE.1 hv).2.length_le
  clear hv
  by_cases hbig:200<n
  ·have hb1:(200:Int)<(n:Int):=by omega
   have HBAD:=Jh (QT HV.out hbig)
   go_enter Tryz.func15,Tryz.ntmps15
   go_wp2_with fail
   refine (Wa _ b _ HH.out).mono ?_
   rintro e w5 ⟨rfl,b5⟩
   have HB5:=Lib.hid b5
   rw[hR]
   clear hR b5
   go_wp2_with fail
   go_ret2
   exact .inr ⟨HBAD.out,rfl,HB5.out⟩
  ·have hb1:¬ (200:Int)<(n:Int):=by omega
   obtain ⟨i0,hi,hy0,hy1,hy2⟩:=info_parts UJ
   have hmk:∀ W:World,(Instr.makeSlice 24 (.int .u64 (n:Int)) (.int .u64 (n:Int))).run Tryz.prog W=.ok (.slice (some ⟨W.heap.size,0,none⟩) n n) (W.alloc (.cells (madeCells zOp.cells.toArray (n*26)) 68)):=fun W=>by
    have h:=run_make (P:=Tryz.prog) W 24 68 i0 _ Tryz.underlying24 hi hy0 .u64 .u64 (n:Int) (n:Int) (by omega) (by omega) (by rw[hy2];omega) (by omega)
    rw[hy1,Int.toNat_natCast] at h
    exact h
   clear hi hy0 hy1 hy2
   obtain ⟨q0,hq0⟩:=Je ((Z5 n).length)
   rw[hq0] at hR hpb
   go_enter Tryz.func15,Tryz.ntmps15
   go_wp2_with fail
   refine (Wa _ b _ HH.out).mono ?_
   rintro e w5 ⟨rfl,b5⟩
   rw[hR]
   clear hR
   go_upto_region 5 with fail
   have ho5:=Own.made (W:=w5) (base:=w.heap.size) (n:=n) b5.size (by omega)
   have hb5:=b5.alloc b5.size (.cells (madeCells zOp.cells.toArray (n*26)) 68)
   generalize w5.alloc (.cells (madeCells zOp.cells.toArray (n*26)) 68)=W5 at ho5 hb5 ⊢
   generalize w5.heap.size=g at ho5 ⊢
   have HN:=Jh (And.intro ho5 hb5)
   clear ho5 hb5 b5 hmk w5
   go_wp2_with fail
   have hn6:n≤65536:=by omega
   go_loopg [5,8] 21 (fun z pv cv wr=>∃ (c p:Nat) (L:List (List Int)),z=21 - c∧pv=.int .i64 p∧cv=.int .i64 c∧c≤21∧p≤b.length∧L.length=c∧Hid (ZP n c (b.drop q0)=some (L,b.drop p)∧Own OpD.cells 26 68 w.heap.size wr (.slice (some ⟨g,0,none⟩) n n) (ZC n L)∧Below w.heap.size w wr))
   case atStart=>exact ⟨0,q0,[],rfl,rfl,rfl,by omega,hpb,rfl,Lib.hid ⟨rfl,by rw[Z6V];exact HN.out.1,HN.out.2⟩⟩
   case round =>
    clear HN hpb
    obtain ⟨c,p,L,hg,rfl,rfl,hc,hpr,hL,HI⟩:=hrel
    have HG:=Lib.hid hg
    clear hg
    by_cases hlt:c<21
    ·have hc1:(c:Int)≤20:=by omega
     have hc2:¬ (20:Int)<(c:Int):=by omega
     have hLL:=Lib.hid hL
     clear hL
     obtain ⟨a1,c1,hsl,hS1,-⟩:=ZJ (P:=Tryz.prog) (ea:=u8c) Tryz.underlying22 Zh a b.length cap p hcap hpr
     have HS:=Jh (fun W (hW:Below w.heap.size w W)=>hS1 W b rfl (HH.out.below hW))
     clear hS1
     go_wp2_with fail
     refine (WG _ (b.drop p) n wr (HS.out _ HI.out.2.2) hn6).mono ?_
     rintro e w6 (⟨V,u,v6,hd,rfl,hown,hb6⟩|⟨hd,rfl,hb6⟩)
     ·have HI6:Hid (Own OpD.cells 26 68 w.heap.size w6 (.slice (some ⟨g,0,none⟩) n n) (ZC n L)∧Below w.heap.size w w6):=Lib.hid ⟨HI.out.2.1.below1 hb6,HI.out.2.2.trans (hb6.mono HI.out.2.2.size)⟩
      go_wp2_with fail
      refine (UP c hlt w6).mono ?_
      rintro e w7 ⟨rfl,rfl⟩
      cases hdl:dlt c with
      | false =>
       have HC:Hid (WM n (dlt c) (b.drop p)=some (V,u)):=Jh (by rw[hdl];exact hd)
       have HVO:=Jh (hown.mono HI.out.2.2.size)
       clear hd hown hdl hb6
       have hcf:=Vb hn6 HC.out
       have hul:=hcf.2
       rw[List.length_drop] at hul
       obtain ⟨⟨pa,pn,pc⟩,ep⟩:=HVO.out.sl
       dsimp only at ep
       subst ep
       obtain rfl:pn=n:=by have h:=(HVO.out.nlen Zf).1;rw[hcf.1] at h;exact h
       have HVL:Hid (V.length=pn):=Lib.hid hcf.1
       have HST:=Jh (VV HI.out.1 HC.out)
       clear hcf HI hsl HS HC
       go_wp2_with fail
       go_loopg [12] pn (fun z iv wx=>∃ i:Nat,z=pn - i∧iv=.int .i64 i∧i≤pn∧Hid (Own OpD.cells 26 68 w.heap.size wx (.slice (some ⟨g,0,none⟩) pn pn) (YZ (ZC pn (L++[V])) (ZC pn L) i)∧Own Zi 1 3 w.heap.size wx (.slice pa pn pc) V∧Below w.heap.size w wx))
       case atStart=>exact ⟨0,rfl,rfl,Nat.zero_le _,Lib.hid ⟨by rw[R0];exact HI6.out.1,HVO.out,HI6.out.2⟩⟩
       case round =>
        clear HI6 HVO
        obtain ⟨i,hg,rfl,hi,HI⟩:=hrel
        have HG2:=Lib.hid hg
        clear hg
        by_cases hli:i<pn
        ·have hi1:(i:Int)<(pn:Int):=by omega
         have hi0:(0:Int)≤(i:Int):=by omega
         obtain ⟨y,hy⟩:∃ y,V[i]?=some y:=⟨_,List.getElem?_eq_getElem (by rw[HVL.out];exact hli)⟩
         obtain ⟨x,hxd⟩:=Je (zOp.withF (WR L i))
         have hln:(ZC pn (L++[V])).length=(ZC pn L).length:=by rw[ZV,ZV]
         have hln2:(YZ (ZC pn (L++[V])) (ZC pn L) i).length=pn:=by rw[Qo hln (by rw[ZV];exact hi),ZV]
         have hx:(YZ (ZC pn (L++[V])) (ZC pn L) i)[i]?=some x:=Z0y hln (by rw[T0 L hli,hxd])
         have hpx:=Qj (n:=pn) (L:=L) hli hy (by rw[hLL.out];exact hlt)
         rw[hxd,hLL.out] at hpx
         have HPX:=Jh (Rd hln hpx)
         obtain ⟨vb,vo,ev,cv⟩:=(HI.out.2.1.slice Zf).at1 hy rfl
         cases ev
         have HLN2:=Lib.hid hln2
         have hS0:(fun W:World=>Z0 OpD.cells 26 W (.slice (some ⟨g,0,none⟩) pn pn) (YZ (ZC pn (L++[V])) (ZC pn L) i)∧W.cell? ⟨vb,vo+i,none⟩=some (.int .i64 y)) wr.drew:=⟨HI.out.1.slice OpD.len,cv⟩
         have HX:=Lib.hid hx
         have HI1:Hid (Own OpD.cells 26 68 w.heap.size wr.drew (.slice (some ⟨g,0,none⟩) pn pn) (YZ (ZC pn (L++[V])) (ZC pn L) i)∧Own Zi 1 3 w.heap.size wr.drew (.slice (some ⟨vb,vo,none⟩) pn pc) V∧Below w.heap.size w wr.drew):=Lib.hid ⟨HI.out.1.drew,HI.out.2.1.drew,HI.out.2.2.drew⟩
         clear hx hpx hln hln2 cv hxd HI hy
         go_upto_region 16 with fail
         refine Z7 (fun W:World=>Z0 OpD.cells 26 W (.slice (some ⟨g,0,none⟩) pn pn) (YZ (ZC pn (L++[V])) (ZC pn L) i)∧W.cell? ⟨vb,vo+i,none⟩=some (.int .i64 y)) (fun i=>i == 13) (by kernel_rfl) ?_
         generalize wr.drew=W1 at hS0 HI1 ⊢
         refine J2 0 65 (.slice (some ⟨g,0,none⟩) pn pn) hS0 ?_
         try simp only[Ja]
         refine J2 1 66 (.int .i64 i) hS0 ?_
         try simp only[Ja]
         refine J2 2 67 (.slice (some ⟨g,0,none⟩) pn pn) hS0 ?_
         try simp only[Ja]
         refine J2 3 68 (.int .i64 i) hS0 ?_
         try simp only[Ja]
         refine J2 4 69 (.pointer (some ⟨g,i*26,none⟩)) hS0 ?_
         try simp only[Ja]
         refine JR 5 70 (.agg x.cells.toArray) rfl rfl hS0 (fun W hW=>by have h:=X9 hW.1 HX.out;rw[Nat.zero_add] at h;exact Z9 rfl rfl h) ?_
         try simp only[Ja]
         refine J2 6 71 (.int .i64 c) hS0 ?_
         try simp only[Ja]
         refine J2 7 72 (.slice (some ⟨vb,vo,none⟩) pn pc) hS0 ?_
         try simp only[Ja]
         refine J2 8 73 (.int .i64 i) hS0 ?_
         try simp only[Ja]
         refine J2 9 74 (.pointer (some ⟨vb,vo+i,none⟩)) hS0 ?_
         try simp only[Ja]
         refine J2 10 75 (.int .i64 y) hS0 ?_
         try simp only[Ja]
         refine Zm (i:=11) (d:=some 76) (f:=58) (args:=#[.agg x.cells.toArray,.int .i64 c,.int .i64 y]) (w':=W1) (by kernel_rfl) rfl rfl (by rfl) (by go_simp;try rfl) ?_
         refine (R7 x c hlt y W1).mono ?_
         rintro e w7 ⟨rfl,b7⟩
         have hS7:(fun W:World=>Z0 OpD.cells 26 W (.slice (some ⟨g,0,none⟩) pn pn) (YZ (ZC pn (L++[V])) (ZC pn L) i)∧W.cell? ⟨vb,vo+i,none⟩=some (.int .i64 y)) w7:=⟨hS0.1.below b7,(b7.cell (p:=⟨vb,vo+i,none⟩) (Zu hS0.2)).trans hS0.2⟩
         refine ⟨(x.putF c y).val,rfl,fun _=>hS7,?_⟩
         try simp only[Ja]
         have HI7:=Jh (And.intro (HI1.out.1.below1 b7) (And.intro (HI1.out.2.1.below1 b7) (HI1.out.2.2.trans (b7.mono HI1.out.2.2.size))))
         refine J2 12 77 (.pointer (some ⟨g,i*26,none⟩)) hS7 ?_
         try simp only[Ja]
         have ho7:=HI7.out.1
         obtain ⟨W8,hst,ho8,hx8⟩:=SL ho7 HLN2.out (i:=i) hli (x.putF c y)
         rw[HPX.out] at ho8
         have HN:=Jh (And.intro ho8 (And.intro (Qn HI7.out.2.1 HI7.out.1 (by decide) rfl hx8) (Ext.new HI7.out.2.2 hx8 (fun k hk _ e=>by have:=(ho7.blk g rfl).1;omega) HI7.out.2.2.size)))
         refine Zo (i:=13) (d:=none) (w':=W8) (by kernel_rfl) rfl rfl (by rfl) (Yj rfl rfl rfl hst) (fun h=>by cases h) ?_
         try simp only[Ja]
         refine Z3 (by kernel_rfl) ?_ _
         clear hst ho8 hx8 ho7 HI7 HI1 hS7 hS0 b7
         go_wp2_with fail
         go_roundg (pn - (i+1))
         case measure=>rw[HG2.out];omega
         case rel=>exact ⟨i+1,rfl,by simp,by omega,HN⟩
        ·obtain rfl:i=pn:=by omega
         have hi1:¬ (i:Int)<(i:Int):=by omega
         have HN:Hid (ZP i (c+1) (b.drop q0)=some (L++[V],b.drop (p+u))∧Own OpD.cells 26 68 w.heap.size wr (.slice (some ⟨g,0,none⟩) i i) (ZC i (L++[V]))∧Below w.heap.size w wr):=Lib.hid ⟨by have h:=HST.out;rwa [List.drop_drop] at h,by have h:=HI.out.1;have e:=Qe (a:=ZC i (L++[V])) (b:=ZC i L) (by rw[ZV,ZV]);rw[ZV] at e;rw[e] at h;exact h,HI.out.2.2⟩
         clear HI HST
         go_wp2_with fail
         go_roundg (21 - (c+1))
         case measure=>rw[HG.out];omega
         case rel=>exact ⟨c+1,p+u,L++[V],rfl,by simp,by simp,by omega,by omega,by rw[List.length_append,hLL.out];rfl,HN⟩
      | true =>
       clear hd hb6 hown
       go_wp2_with fail
       refine (Ts _ (b.drop p) n w7 (HS.out _ HI6.out.2) hn6).mono ?_
       rintro e w8 (⟨V2,u2,v8,hd,rfl,hown,hb8⟩|⟨hd,rfl,hb8⟩)
       ·have HC:Hid (WM n (dlt c) (b.drop p)=some (V2,u2)):=Jh (by rw[hdl];exact hd)
        have HVO:=Jh (hown.mono HI6.out.2.size)
        have HI8:Hid (Own OpD.cells 26 68 w.heap.size w8 (.slice (some ⟨g,0,none⟩) n n) (ZC n L)∧Below w.heap.size w w8):=Lib.hid ⟨HI6.out.1.below1 hb8,HI6.out.2.trans (hb8.mono HI6.out.2.size)⟩
        clear hd hown hdl hb8 HI6
        have hcf:=Vb hn6 HC.out
        have hul:=hcf.2
        rw[List.length_drop] at hul
        obtain ⟨⟨pa,pn,pc⟩,ep⟩:=HVO.out.sl
        dsimp only at ep
        subst ep
        obtain rfl:pn=n:=by have h:=(HVO.out.nlen Zf).1;rw[hcf.1] at h;exact h
        have HVL:Hid (V2.length=pn):=Lib.hid hcf.1
        have HST:=Jh (VV HI.out.1 HC.out)
        clear hcf HI hsl HS HC
        go_wp2_with fail
        go_loopg [12] pn (fun z iv wx=>∃ i:Nat,z=pn - i∧iv=.int .i64 i∧i≤pn∧Hid (Own OpD.cells 26 68 w.heap.size wx (.slice (some ⟨g,0,none⟩) pn pn) (YZ (ZC pn (L++[V2])) (ZC pn L) i)∧Own Zi 1 3 w.heap.size wx (.slice pa pn pc) V2∧Below w.heap.size w wx))
        case atStart=>exact ⟨0,rfl,rfl,Nat.zero_le _,Lib.hid ⟨by rw[R0];exact HI8.out.1,HVO.out,HI8.out.2⟩⟩
        case round =>
         clear HI8 HVO
         obtain ⟨i,hg,rfl,hi,HI⟩:=hrel
         have HG2:=Lib.hid hg
         clear hg
         by_cases hli:i<pn
         ·have hi1:(i:Int)<(pn:Int):=by omega
          have hi0:(0:Int)≤(i:Int):=by omega
          obtain ⟨y,hy⟩:∃ y,V2[i]?=some y:=⟨_,List.getElem?_eq_getElem (by rw[HVL.out];exact hli)⟩
          obtain ⟨x,hxd⟩:=Je (zOp.withF (WR L i))
          have hln:(ZC pn (L++[V2])).length=(ZC pn L).length:=by rw[ZV,ZV]
          have hln2:(YZ (ZC pn (L++[V2])) (ZC pn L) i).length=pn:=by rw[Qo hln (by rw[ZV];exact hi),ZV]
          have hx:(YZ (ZC pn (L++[V2])) (ZC pn L) i)[i]?=some x:=Z0y hln (by rw[T0 L hli,hxd])
          have hpx:=Qj (n:=pn) (L:=L) hli hy (by rw[hLL.out];exact hlt)
          rw[hxd,hLL.out] at hpx
          have HPX:=Jh (Rd hln hpx)
          obtain ⟨vb,vo,ev,cv⟩:=(HI.out.2.1.slice Zf).at1 hy rfl
          cases ev
          have HLN2:=Lib.hid hln2
          have hS0:(fun W:World=>Z0 OpD.cells 26 W (.slice (some ⟨g,0,none⟩) pn pn) (YZ (ZC pn (L++[V2])) (ZC pn L) i)∧W.cell? ⟨vb,vo+i,none⟩=some (.int .i64 y)) wr.drew:=⟨HI.out.1.slice OpD.len,cv⟩
          have HX:=Lib.hid hx
          have HI1:Hid (Own OpD.cells 26 68 w.heap.size wr.drew (.slice (some ⟨g,0,none⟩) pn pn) (YZ (ZC pn (L++[V2])) (ZC pn L) i)∧Own Zi 1 3 w.heap.size wr.drew (.slice (some ⟨vb,vo,none⟩) pn pc) V2∧Below w.heap.size w wr.drew):=Lib.hid ⟨HI.out.1.drew,HI.out.2.1.drew,HI.out.2.2.drew⟩
          clear hx hpx hln hln2 cv hxd HI hy
          go_upto_region 16 with fail
          refine Z7 (fun W:World=>Z0 OpD.cells 26 W (.slice (some ⟨g,0,none⟩) pn pn) (YZ (ZC pn (L++[V2])) (ZC pn L) i)∧W.cell? ⟨vb,vo+i,none⟩=some (.int .i64 y)) (fun i=>i == 13) (by kernel_rfl) ?_
          generalize wr.drew=W1 at hS0 HI1 ⊢
          refine J2 0 65 (.slice (some ⟨g,0,none⟩) pn pn) hS0 ?_
          try simp only[Ja]
          refine J2 1 66 (.int .i64 i) hS0 ?_
          try simp only[Ja]
          refine J2 2 67 (.slice (some ⟨g,0,none⟩) pn pn) hS0 ?_
          try simp only[Ja]
          refine J2 3 68 (.int .i64 i) hS0 ?_
          try simp only[Ja]
          refine J2 4 69 (.pointer (some ⟨g,i*26,none⟩)) hS0 ?_
          try simp only[Ja]
          refine JR 5 70 (.agg x.cells.toArray) rfl rfl hS0 (fun W hW=>by have h:=X9 hW.1 HX.out;rw[Nat.zero_add] at h;exact Z9 rfl rfl h) ?_
          try simp only[Ja]
          refine J2 6 71 (.int .i64 c) hS0 ?_
          try simp only[Ja]
          refine J2 7 72 (.slice (some ⟨vb,vo,none⟩) pn pc) hS0 ?_
          try simp only[Ja]
          refine J2 8 73 (.int .i64 i) hS0 ?_
          try simp only[Ja]
          refine J2 9 74 (.pointer (some ⟨vb,vo+i,none⟩)) hS0 ?_
          try simp only[Ja]
          refine J2 10 75 (.int .i64 y) hS0 ?_
          try simp only[Ja]
          refine Zm (i:=11) (d:=some 76) (f:=58) (args:=#[.agg x.cells.toArray,.int .i64 c,.int .i64 y]) (w':=W1) (by kernel_rfl) rfl rfl (by rfl) (by go_simp;try rfl) ?_
          refine (R7 x c hlt y W1).mono ?_
          rintro e w7 ⟨rfl,b7⟩
          have hS7:(fun W:World=>Z0 OpD.cells 26 W (.slice (some ⟨g,0,none⟩) pn pn) (YZ (ZC pn (L++[V2])) (ZC pn L) i)∧W.cell? ⟨vb,vo+i,none⟩=some (.int .i64 y)) w7:=⟨hS0.1.below b7,(b7.cell (p:=⟨vb,vo+i,none⟩) (Zu hS0.2)).trans hS0.2⟩
          refine ⟨(x.putF c y).val,rfl,fun _=>hS7,?_⟩
          try simp only[Ja]
          have HI7:=Jh (And.intro (HI1.out.1.below1 b7) (And.intro (HI1.out.2.1.below1 b7) (HI1.out.2.2.trans (b7.mono HI1.out.2.2.size))))
          refine J2 12 77 (.pointer (some ⟨g,i*26,none⟩)) hS7 ?_
          try simp only[Ja]
          have ho7:=HI7.out.1
          obtain ⟨W8,hst,ho8,hx8⟩:=SL ho7 HLN2.out (i:=i) hli (x.putF c y)
          rw[HPX.out] at ho8
          have HN:=Jh (And.intro ho8 (And.intro (Qn HI7.out.2.1 HI7.out.1 (by decide) rfl hx8) (Ext.new HI7.out.2.2 hx8 (fun k hk _ e=>by have:=(ho7.blk g rfl).1;omega) HI7.out.2.2.size)))
          refine Zo (i:=13) (d:=none) (w':=W8) (by kernel_rfl) rfl rfl (by rfl) (Yj rfl rfl rfl hst) (fun h=>by cases h) ?_
          try simp only[Ja]
          refine Z3 (by kernel_rfl) ?_ _
          clear hst ho8 hx8 ho7 HI7 HI1 hS7 hS0 b7
          go_wp2_with fail
          go_roundg (pn - (i+1))
          case measure=>rw[HG2.out];omega
          case rel=>exact ⟨i+1,rfl,by simp,by omega,HN⟩
         ·obtain rfl:i=pn:=by omega
          have hi1:¬ (i:Int)<(i:Int):=by omega
          have HN:Hid (ZP i (c+1) (b.drop q0)=some (L++[V2],b.drop (p+u2))∧Own OpD.cells 26 68 w.heap.size wr (.slice (some ⟨g,0,none⟩) i i) (ZC i (L++[V2]))∧Below w.heap.size w wr):=Lib.hid ⟨by have h:=HST.out;rwa [List.drop_drop] at h,by have h:=HI.out.1;have e:=Qe (a:=ZC i (L++[V2])) (b:=ZC i L) (by rw[ZV,ZV]);rw[ZV] at e;rw[e] at h;exact h,HI.out.2.2⟩
          clear HI HST
          go_wp2_with fail
          go_roundg (21 - (c+1))
          case measure=>rw[HG.out];omega
          case rel=>exact ⟨c+1,p+u2,L++[V2],rfl,by simp,by simp,by omega,by omega,by rw[List.length_append,hLL.out];rfl,HN⟩
       ·have HC:Hid (WM n (dlt c) (b.drop p)=none):=Jh (by rw[hdl];exact hd)
        have HI8:Hid (Own OpD.cells 26 68 w.heap.size w8 (.slice (some ⟨g,0,none⟩) n n) (ZC n L)∧Below w.heap.size w w8):=Lib.hid ⟨HI6.out.1.below1 hb8,HI6.out.2.trans (hb8.mono HI6.out.2.size)⟩
        clear hd hdl hb8 HI6
        have HBAD:Hid (Xb b=none):=Jh (Uz HV.out hbig (by rw[hq0];exact Vh HI.out.1 HC.out hlt))
        have HB9:=Lib.hid HI8.out.2
        clear HI hsl HS HC HI8
        go_wp2_with fail
        go_ret2
        exact .inr ⟨HBAD.out,rfl,HB9.out⟩
     ·have HI6:Hid (Own OpD.cells 26 68 w.heap.size w6 (.slice (some ⟨g,0,none⟩) n n) (ZC n L)∧Below w.heap.size w w6):=Lib.hid ⟨HI.out.2.1.below1 hb6,HI.out.2.2.trans (hb6.mono HI.out.2.2.size)⟩
      go_wp2_with fail
      refine (UP c hlt w6).mono ?_
      rintro e w7 ⟨rfl,rfl⟩
      cases hdl:dlt c with
      | false =>
       have HC:Hid (WM n (dlt c) (b.drop p)=none):=Jh (by rw[hdl];exact hd)
       clear hd hdl hb6
       have HBAD:Hid (Xb b=none):=Jh (Uz HV.out hbig (by rw[hq0];exact Vh HI.out.1 HC.out hlt))
       have HB9:=Lib.hid HI6.out.2
       clear HI hsl HS HC HI6
       go_wp2_with fail
       go_ret2
       exact .inr ⟨HBAD.out,rfl,HB9.out⟩
      | true =>
       clear hd hb6
       go_wp2_with fail
       refine (Ts _ (b.drop p) n w7 (HS.out _ HI6.out.2) hn6).mono ?_
       rintro e w8 (⟨V2,u2,v8,hd,rfl,hown,hb8⟩|⟨hd,rfl,hb8⟩)
       ·have HC:Hid (WM n (dlt c) (b.drop p)=some (V2,u2)):=Jh (by rw[hdl];exact hd)
        have HVO:=Jh (hown.mono HI6.out.2.size)
        have HI8:Hid (Own OpD.cells 26 68 w.heap.size w8 (.slice (some ⟨g,0,none⟩) n n) (ZC n L)∧Below w.heap.size w w8):=Lib.hid ⟨HI6.out.1.below1 hb8,HI6.out.2.trans (hb8.mono HI6.out.2.size)⟩
        clear hd hown hdl hb8 HI6
        have hcf:=Vb hn6 HC.out
        have hul:=hcf.2
        rw[List.length_drop] at hul
        obtain ⟨⟨pa,pn,pc⟩,ep⟩:=HVO.out.sl
        dsimp only at ep
        subst ep
        obtain rfl:pn=n:=by have h:=(HVO.out.nlen Zf).1;rw[hcf.1] at h;exact h
        have HVL:Hid (V2.length=pn):=Lib.hid hcf.1
        have HST:=Jh (VV HI.out.1 HC.out)
        clear hcf HI hsl HS HC
        go_wp2_with fail
        go_loopg [12] pn (fun z iv wx=>∃ i:Nat,z=pn - i∧iv=.int .i64 i∧i≤pn∧Hid (Own OpD.cells 26 68 w.heap.size wx (.slice (some ⟨g,0,none⟩) pn pn) (YZ (ZC pn (L++[V2])) (ZC pn L) i)∧Own Zi 1 3 w.heap.size wx (.slice pa pn pc) V2∧Below w.heap.size w wx))
        case atStart=>exact ⟨0,rfl,rfl,Nat.zero_le _,Lib.hid ⟨by rw[R0];exact HI8.out.1,HVO.out,HI8.out.2⟩⟩
        case round =>
         clear HI8 HVO
         obtain ⟨i,hg,rfl,hi,HI⟩:=hrel
         have HG2:=Lib.hid hg
         clear hg
         by_cases hli:i<pn
         ·have hi1:(i:Int)<(pn:Int):=by omega
          have hi0:(0:Int)≤(i:Int):=by omega
          obtain ⟨y,hy⟩:∃ y,V2[i]?=some y:=⟨_,List.getElem?_eq_getElem (by rw[HVL.out];exact hli)⟩
          obtain ⟨x,hxd⟩:=Je (zOp.withF (WR L i))
          have hln:(ZC pn (L++[V2])).length=(ZC pn L).length:=by rw[ZV,ZV]
          have hln2:(YZ (ZC pn (L++[V2])) (ZC pn L) i).length=pn:=by rw[Qo hln (by rw[ZV];exact hi),ZV]
          have hx:(YZ (ZC pn (L++[V2])) (ZC pn L) i)[i]?=some x:=Z0y hln (by rw[T0 L hli,hxd])
          have hpx:=Qj (n:=pn) (L:=L) hli hy (by rw[hLL.out];exact hlt)
          rw[hxd,hLL.out] at hpx
          have HPX:=Jh (Rd hln hpx)
          obtain ⟨vb,vo,ev,cv⟩:=(HI.out.2.1.slice Zf).at1 hy rfl
          cases ev
          have HLN2:=Lib.hid hln2
          have hS0:(fun W:World=>Z0 OpD.cells 26 W (.slice (some ⟨g,0,none⟩) pn pn) (YZ (ZC pn (L++[V2])) (ZC pn L) i)∧W.cell? ⟨vb,vo+i,none⟩=some (.int .i64 y)) wr.drew:=⟨HI.out.1.slice OpD.len,cv⟩
          have HX:=Lib.hid hx
          have HI1:Hid (Own OpD.cells 26 68 w.heap.size wr.drew (.slice (some ⟨g,0,none⟩) pn pn) (YZ (ZC pn (L++[V2])) (ZC pn L) i)∧Own Zi 1 3 w.heap.size wr.drew (.slice (some ⟨vb,vo,none⟩) pn pc) V2∧Below w.heap.size w wr.drew):=Lib.hid ⟨HI.out.1.drew,HI.out.2.1.drew,HI.out.2.2.drew⟩
          clear hx hpx hln hln2 cv hxd HI hy
          go_upto_region 16 with fail
          refine Z7 (fun W:World=>Z0 OpD.cells 26 W (.slice (some ⟨g,0,none⟩) pn pn) (YZ (ZC pn (L++[V2])) (ZC pn L) i)∧W.cell? ⟨vb,vo+i,none⟩=some (.int .i64 y)) (fun i=>i == 13) (by kernel_rfl) ?_
          generalize wr.drew=W1 at hS0 HI1 ⊢
          refine J2 0 65 (.slice (some ⟨g,0,none⟩) pn pn) hS0 ?_
          try simp only[Ja]
          refine J2 1 66 (.int .i64 i) hS0 ?_
          try simp only[Ja]
          refine J2 2 67 (.slice (some ⟨g,0,none⟩) pn pn) hS0 ?_
          try simp only[Ja]
          refine J2 3 68 (.int .i64 i) hS0 ?_
          try simp only[Ja]
          refine J2 4 69 (.pointer (some ⟨g,i*26,none⟩)) hS0 ?_
          try simp only[Ja]
          refine JR 5 70 (.agg x.cells.toArray) rfl rfl hS0 (fun W hW=>by have h:=X9 hW.1 HX.out;rw[Nat.zero_add] at h;exact Z9 rfl rfl h) ?_
          try simp only[Ja]
          refine J2 6 71 (.int .i64 c) hS0 ?_
          try simp only[Ja]
          refine J2 7 72 (.slice (some ⟨vb,vo,none⟩) pn pc) hS0 ?_
          try simp only[Ja]
          refine J2 8 73 (.int .i64 i) hS0 ?_
          try simp only[Ja]
          refine J2 9 74 (.pointer (some ⟨vb,vo+i,none⟩)) hS0 ?_
          try simp only[Ja]
          refine J2 10 75 (.int .i64 y) hS0 ?_
          try simp only[Ja]
          refine Zm (i:=11) (d:=some 76) (f:=58) (args:=#[.agg x.cells.toArray,.int .i64 c,.int .i64 y]) (w':=W1) (by kernel_rfl) rfl rfl (by rfl) (by go_simp;try rfl) ?_
          refine (R7 x c hlt y W1).mono ?_
          rintro e w7 ⟨rfl,b7⟩
          have hS7:(fun W:World=>Z0 OpD.cells 26 W (.slice (some ⟨g,0,none⟩) pn pn) (YZ (ZC pn (L++[V2])) (ZC pn L) i)∧W.cell? ⟨vb,vo+i,none⟩=some (.int .i64 y)) w7:=⟨hS0.1.below b7,(b7.cell (p:=⟨vb,vo+i,none⟩) (Zu hS0.2)).trans hS0.2⟩
          refine ⟨(x.putF c y).val,rfl,fun _=>hS7,?_⟩
          try simp only[Ja]
          have HI7:=Jh (And.intro (HI1.out.1.below1 b7) (And.intro (HI1.out.2.1.below1 b7) (HI1.out.2.2.trans (b7.mono HI1.out.2.2.size))))
          refine J2 12 77 (.pointer (some ⟨g,i*26,none⟩)) hS7 ?_
          try simp only[Ja]
          have ho7:=HI7.out.1
          obtain ⟨W8,hst,ho8,hx8⟩:=SL ho7 HLN2.out (i:=i) hli (x.putF c y)
          rw[HPX.out] at ho8
          have HN:=Jh (And.intro ho8 (And.intro (Qn HI7.out.2.1 HI7.out.1 (by decide) rfl hx8) (Ext.new HI7.out.2.2 hx8 (fun k hk _ e=>by have:=(ho7.blk g rfl).1;omega) HI7.out.2.2.size)))
          refine Zo (i:=13) (d:=none) (w':=W8) (by kernel_rfl) rfl rfl (by rfl) (Yj rfl rfl rfl hst) (fun h=>by cases h) ?_
          try simp only[Ja]
          refine Z3 (by kernel_rfl) ?_ _
          clear hst ho8 hx8 ho7 HI7 HI1 hS7 hS0 b7
          go_wp2_with fail
          go_roundg (pn - (i+1))
          case measure=>rw[HG2.out];omega
          case rel=>exact ⟨i+1,rfl,by simp,by omega,HN⟩
         ·obtain rfl:i=pn:=by omega
          have hi1:¬ (i:Int)<(i:Int):=by omega
          have HN:Hid (ZP i (c+1) (b.drop q0)=some (L++[V2],b.drop (p+u2))∧Own OpD.cells 26 68 w.heap.size wr (.slice (some ⟨g,0,none⟩) i i) (ZC i (L++[V2]))∧Below w.heap.size w wr):=Lib.hid ⟨by have h:=HST.out;rwa [List.drop_drop] at h,by have h:=HI.out.1;have e:=Qe (a:=ZC i (L++[V2])) (b:=ZC i L) (by rw[ZV,ZV]);rw[ZV] at e;rw[e] at h;exact h,HI.out.2.2⟩
          clear HI HST
          go_wp2_with fail
          go_roundg (21 - (c+1))
          case measure=>rw[HG.out];omega
          case rel=>exact ⟨c+1,p+u2,L++[V2],rfl,by simp,by simp,by omega,by omega,by rw[List.length_append,hLL.out];rfl,HN⟩
       ·have HC:Hid (WM n (dlt c) (b.drop p)=none):=Jh (by rw[hdl];exact hd)
        have HI8:Hid (Own OpD.cells 26 68 w.heap.size w8 (.slice (some ⟨g,0,none⟩) n n) (ZC n L)∧Below w.heap.size w w8):=Lib.hid ⟨HI6.out.1.below1 hb8,HI6.out.2.trans (hb8.mono HI6.out.2.size)⟩
        clear hd hdl hb8 HI6
        have HBAD:Hid (Xb b=none):=Jh (Uz HV.out hbig (by rw[hq0];exact Vh HI.out.1 HC.out hlt))
        have HB9:=Lib.hid HI8.out.2
        clear HI hsl HS HC HI8
        go_wp2_with fail
        go_ret2
        exact .inr ⟨HBAD.out,rfl,HB9.out⟩
    ·obtain rfl:c=21:=by omega
     have hc1:¬ (21:Int)≤20:=by omega
     have hc2:(20:Int)<21:=by omega
     have HC:Hid (ZP n 21 (b.drop (Z5 n).length)=some (L,b.drop p)):=Jh (by rw[hq0];exact HI.out.1)
     have HI6:=Lib.hid HI.out.2
     obtain ⟨a1,c1,hsl,hS1,-⟩:=ZJ (P:=Tryz.prog) (ea:=u8c) Tryz.underlying22 Zh a b.length cap p hcap hpr
     have HS:=Jh (hS1 w b rfl HH.out)
     clear hS1 HI HG hlt hc hL
     simp only[show (((21:Nat):Int))=21 from rfl]
     go_wp2_with fail
     refine (Z3y w wr _ _ (b.drop p) (ZC n L) HI6.out.1 HI6.out.2 HS.out (by rw[ZV];omega)).mono ?_
     rintro e w6 (⟨l3,p1,hp1,hdec,rfl,hk6⟩|⟨hdec,rfl,hb6⟩)
     rotate_left
     ·rw[ZV] at hdec
      have HBAD:=Jh (QH HV.out hbig HC.out hdec)
      have HBL:=Lib.hid hb6
      clear hdec hb6 HI6 HC HS hsl
      go_wp2_with fail
      go_ret2
      exact .inr ⟨HBAD.out,rfl,HBL.out⟩
     rw[ZV] at hdec
     rw[List.length_drop] at hp1
     have HCH:=Jh (SQ HV.out hbig HC.out hdec)
     have HL3:Hid (l3.length=n):=Jh ((Rk hdec).trans (ZV n L))
     have HN6:=Lib.hid hk6
     have HP1:=Lib.hid hp1
     have hneg1:¬ (p1:Int)<0:=by omega
     have hp1b:(p:Int)+(p1:Int)≤(b.length:Int):=by omega
     clear hdec hk6 HI6 HC HS hsl hp1
     go_wp2_with fail
     rw[List.drop_drop] at HCH
     go_loopg [5,14] 3 (fun z pv kv wx=>∃ (k p2:Nat) (l4:List OpD),z=3 - k∧pv=.int .i64 p2∧kv=.int .i64 k∧k≤3∧p2≤b.length∧Hid (tkX n k (l3,b.drop (p+p1))=some (l4,b.drop p2)∧l4.length=n∧Own OpD.cells 26 68 w.heap.size wx (.slice (some ⟨g,0,none⟩) n n) l4∧Below w.heap.size w wx))
     case atStart=>exact ⟨0,p+p1,l3,rfl,by simp,rfl,by omega,by have:=HP1.out;omega,Lib.hid ⟨rfl,HL3.out,HN6.out.1,HN6.out.2⟩⟩
     case round =>
      clear HN6 HL3 HP1 hneg1 hp1b
      obtain ⟨k,p2,l4,hg,rfl,rfl,hk,hp2,HR⟩:=hrel
      have HG:=Lib.hid hg
      clear hg
      by_cases hlt:k<3
      ·have hk1:(k:Int)<3:=by omega
       have HLT:=Lib.hid hlt
       clear hlt
       obtain ⟨a1,c1,hsl,hS1,-⟩:=ZJ (P:=Tryz.prog) (ea:=u8c) Tryz.underlying22 Zh a b.length cap p2 hcap hp2
       have HS:=Jh (hS1 w b rfl HH.out)
       clear hS1
       go_wp2_with fail
       refine (Z4z w wr _ _ (b.drop p2) l4 k HLT.out HR.out.2.2.1 HR.out.2.2.2 HS.out (by rw[HR.out.2.1];omega)).mono ?_
       rintro e w7 (⟨l5,p3,hp3,hdec,rfl,hk7⟩|⟨hdec,rfl,hb7⟩)
       rotate_left
       ·rw[HR.out.2.1] at hdec
        have HBAD:=Jh (Vv (HCH.out.trans (Z45 HR.out.1 hdec HLT.out)))
        have HBL:=Lib.hid hb7
        clear hdec hb7 HR HS hsl
        go_wp2_with fail
        go_ret2
        exact .inr ⟨HBAD.out,rfl,HBL.out⟩
       rw[HR.out.2.1] at hdec
       rw[List.length_drop] at hp3
       have hst:=(Qv HR.out.1).trans hdec
       rw[List.drop_drop] at hst
       have HNN:Hid (tkX n (k+1) (l3,b.drop (p+p1))=some (l5,b.drop (p2+p3))∧l5.length=n∧Own OpD.cells 26 68 w.heap.size w7 (.slice (some ⟨g,0,none⟩) n n) l5∧Below w.heap.size w w7):=Lib.hid ⟨hst,(Z2C hdec).trans HR.out.2.1,hk7.1,hk7.2⟩
       have HP3:Hid (p2+p3≤b.length):=Jh (by omega)
       have hneg3:¬ (p3:Int)<0:=by omega
       have hp3b:(p2:Int)+(p3:Int)≤(b.length:Int):=by omega
       clear hdec hk7 HR hst HS hsl hp3
       go_wp2_with fail
       go_roundg (3 - (k+1))
       case measure=>rw[HG.out];have:=HLT.out;omega
       case rel=>exact ⟨k+1,p2+p3,l5,rfl,by simp,by simp,by have:=HLT.out;omega,HP3.out,HNN⟩
      ·obtain rfl:k=3:=by omega
       have hk1:¬ (3:Int)<3:=by omega
       have HD:Hid (Xk b=some (l4,b.drop p2)):=Jh (HCH.out.trans HR.out.1)
       have HKS:=Lib.hid HR.out.2.2
       have HL4:=Lib.hid HR.out.2.1
       clear HR hlt hk HCH HG HV
       simp only[show (((3:Nat):Int))=3 from rfl]
       go_wp2_with fail
       refine (Z35 _ l4 wr (HKS.out.1.slice OpD.len) (WW HD.out).2.2 (by rw[HL4.out];omega)).mono ?_
       rintro e w7 (⟨h1,h2,v7,rfl,hown,hb7⟩|⟨h1,rfl,hb7⟩|⟨h1,⟨x,hx,hxr⟩,rfl,hb7⟩)
       ·have HO7:=Jh (HKS.out.1.below1 hb7)
        have HB7:=Jh (HKS.out.2.trans (hb7.mono HKS.out.2.size))
        have hcv:=Zt (hown.slice Z6)
        have hcv2:=Zt (HH.out.below HB7.out)
        obtain ⟨⟨ra,rn,rc⟩,e5⟩:=hown.sl
        dsimp only at e5
        subst e5
        have he:=XK ⟨(Xj l4).toArray⟩ ⟨b.toArray⟩
        have H2:=Lib.hid h2
        by_cases hE:Xj l4=b
        ·rw[decide_eq_true (by rw[hE])] at he
         have he2:(Xj l4 == b)=true:=by rw[hE];exact beq_self_eq_true b
         have hr4:b.drop p2=[]:=by
          have h:=(WW HD.out).2.1
          have e:=congrArg List.length h
          rw[hE,List.length_append] at e
          exact List.eq_nil_of_length_eq_zero (by omega)
         have HALL:Hid (Xb b=some l4):=Jh (Z2Q (by rw[←hr4];exact HD.out) H2.out)
         clear hE hr4 hown hb7 HKS h1 h2
         go_wp2_with fail
         go_ret2
         exact .inl ⟨l4,_,HALL.out,rfl,HO7.out,HB7.out⟩
        ·rw[decide_eq_false (fun e=>hE (by have:=congrArg (fun x=>x.data.toList) e;simpa using this))] at he
         have he2:(Xj l4 == b)=false:=beq_false_of_ne hE
         have HBAD:Hid (Xb b=none):=Jh (Rn HD.out (fun h=>hE (by have h3:=(WW HD.out).2.1;rw[h.1,List.append_nil] at h3;exact h3.symm)))
         clear hE hown hb7 HKS h1 h2
         go_wp2_with fail
         go_ret2
         exact .inr ⟨HBAD.out,rfl,HB7.out⟩
       ·exact absurd h1 (by rw[HL4.out];omega)
       ·have HB7:=Jh (HKS.out.2.trans (hb7.mono HKS.out.2.size))
        have HBAD:Hid (Xb b=none):=Jh (Rn HD.out (fun h=>by have:=h.2 x hx;rw[hxr] at this;cases this))
        clear hx hxr h1 hb7 HKS
        go_wp2_with fail
        go_ret2
        exact .inr ⟨HBAD.out,rfl,HB7.out⟩
def Xx (base:Nat) (w:World) (v:Value) (ls:List (List OpD)):Prop :=
 ∃ ss:List Sl,Own slc 1 24 base w v ss∧ss.length=ls.length∧∀ (i:Nat) (s:Sl) (l:List OpD),ss[i]?=some s→ls[i]?=some l→Own OpD.cells 26 68 base w s.val l
theorem Xx.below {base:Nat} {w w':World} {v:Value} {ls:List (List OpD)} (h:Xx base w v ls) (hb:Below w.heap.size w w'):Xx base w' v ls:=by
 obtain ⟨ss,h1,h2,h3⟩:=h
 exact ⟨ss,h1.below1 hb,h2,fun i s l hs hl=>(h3 i s l hs hl).below1 hb⟩
theorem Xx.nil (base:Nat) (w:World):Xx base w (.slice none 0 0) []:=⟨[],Own.nil,rfl,fun i s l hs=>by simp at hs⟩
theorem Xx.mono {base B:Nat} {w:World} {v:Value} {ls:List (List OpD)} (h:Xx base w v ls) (hb:B≤base):Xx B w v ls:=by
 obtain ⟨ss,h1,h2,h3⟩:=h
 exact ⟨ss,h1.mono hb,h2,fun i s l hs hl=>(h3 i s l hs hl).mono hb⟩
theorem Z5N:(Tryz.prog.info? 24).map (fun i=>(i.zero,i.size,i.bytes))=some (some (.slice none 0 0),1,24):=by kernel_rfl
theorem Xx.snoc {base:Nat} {w':World} {v':Value} {ls:List (List OpD)} {l:List OpD} {ss:List Sl} {s:Sl} (h1:ss.length=ls.length) (h2:∀ (i:Nat) (s:Sl) (l:List OpD),ss[i]?=some s→ls[i]?=some l→Own OpD.cells 26 68 base w' s.val l)
  (h3:Own slc 1 24 base w' v' (ss++[s])) (h4:Own OpD.cells 26 68 base w' s.val l):Xx base w' v' (ls++[l]):=by
 refine ⟨ss++[s],h3,by simp[h1],fun i t m ht hm=>?_⟩
 rw[List.getElem?_append] at ht hm
 by_cases hi:i<ss.length
 ·rw[if_pos hi] at ht
  rw[if_pos (by omega)] at hm
  exact h2 i t m ht hm
 ·rw[if_neg hi] at ht
  rw[if_neg (by omega)] at hm
  have e1:i - ss.length=0:=by
   have:=(List.getElem?_eq_some_iff.1 ht).1
   simp at this
   omega
  rw[e1] at ht
  rw[←h1,e1] at hm
  cases ht
  cases hm
  exact h4
def TD (w:World) (b:List UInt8) (e:Ending) (w':World):Prop :=
 ∃ v,e=.returned (.tuple #[v,.int .i64 (XD b:Int)])∧Xx w.heap.size w' v (Xc b)∧Below w.heap.size w w'
theorem TC {w wr:World} {b:List UInt8} {ls:List (List OpD)} {k:Nat} {v:Value} (hP:k=(ZG ls).length∧b=ZG ls++b.drop k∧(∀ l∈ls,Yo l)) (hM:Xx w.heap.size wr v ls∧Below w.heap.size w wr) (hl:YM (b.drop k)=none) {w':World} (hb:Below w.heap.size w w') (hb2:Below wr.heap.size wr w') :
  TD w b (.returned (.tuple #[v,.int .i64 (k:Int)])) w':=by
 have h1:=(Ri hP.2.2 hP.2.1 hl).1
 have h2:=Z3X hP.2.2 hP.2.1 hl
 refine ⟨v,?_,?_,hb⟩
 ·rw[h2,←hP.1]
 ·rw[h1];exact hM.1.below hb2
theorem Z1S (v:Value) (b:List UInt8) (w:World) (h:Z0 u8c 1 w v b) (hn:b.length≤1048576):Calls Tryz.prog 31 #[v] w fun e w'=>TD w b e w':=by
 obtain ⟨xa,xc,rfl,hxc,hxm,-⟩:=id h
 unfold maxLen at hxm
 obtain ⟨q,hq⟩:=Je (b.length)
 have HQ:=Lib.hid hq
 rw[hq] at h hxc hn ⊢
 have HH:=Lib.hid h
 clear h hq
 go_enter Tryz.func31,Tryz.ntmps31
 go_wp2_with fail
 go_loopg [4,5] q (fun g ov kv wx=>∃ (ls:List (List OpD)) (k:Nat) (so:Sl),g=q - k∧ov=.slice so.a so.n so.cap∧kv=.int .i64 k∧k≤q∧Hid (k=(ZG ls).length∧b=ZG ls++b.drop k∧(∀ l∈ls,Yo l)) ∧
  Hid (Xx w.heap.size wx so.val ls∧Below w.heap.size w wx))
 case atStart=>exact ⟨[],0,⟨none,0,0⟩,rfl,rfl,rfl,Nat.zero_le _,Lib.hid ⟨rfl,by simp[ZG],fun l hl=>(by cases hl)⟩,Lib.hid ⟨Xx.nil _ _,Below.refl _ _⟩⟩
 case round =>
  obtain ⟨ls,k,so,hg,rfl,rfl,hkq,HP,HM⟩:=hrel
  have HG:=Lib.hid hg
  clear hg
  obtain ⟨a1,c1,hsl,hS1,-⟩:=ZJ (P:=Tryz.prog) (ea:=u8c) Tryz.underlying22 Zh xa q xc k hxc hkq
  have HS1:=Jh (hS1 wr b HQ.out (HH.out.below (HM.out.2.mono (Nat.le_refl _))))
  clear hS1
  go_wp2_with fail
  refine (Z4y _ (b.drop k) _ HS1.out).mono ?_
  rintro e w4 hp
  unfold Uj at hp
  rcases hp with ⟨kd,body,v1,ht,rfl,hown,hb4⟩|⟨ht,⟨c,hc,rfl⟩,hb4⟩
  ·have B4:=Jh (HM.out.2.trans (hb4.mono HM.out.2.size))
   have HT:=Lib.hid ht
   have hfl:=Z1H ht
   have HB4:=Lib.hid hb4
   clear ht
   by_cases hk:kd=66
   ·subst hk
    obtain ⟨ya,yc,hv1,hyc,hym,-⟩:=hown.slice Z6
    have HY:=Jh (hown.slice Z6)
    subst hv1
    clear hown hb4
    go_wp2_with fail
    refine (Z2u _ body _ HY.out).mono ?_
    rintro e w5 hd
    unfold Rz at hd
    rcases hd with ⟨l,x,hdl,rfl,ho,hb5⟩|⟨hdn,rfl,hb5⟩
    ·obtain ⟨za,zc,hx,hzc,hzm,-⟩:=ho.slice OpD.len
     subst hx
     cases l with
     | nil =>
      have HF:=Jh (TC HP.out HM.out (Qr HT.out hdl) (B4.out.trans (hb5.mono B4.out.size)) (HB4.out.trans (hb5.mono HB4.out.size)))
      clear hdl ho hb5
      go_wp2_with fail
      go_ret2
      exact HF.out
     | cons o0 l0 =>
      obtain ⟨l,hl⟩:=Je (o0 :: l0)
      have hne:l≠[]:=by rw[←hl];simp
      rw[hl] at hdl ho hzc ⊢
      clear hl
      have hT:=Tp HT.out hdl hne
      obtain ⟨hbd,hn0,hnl⟩:=Q6 hT
      obtain ⟨hgl,hnn,-⟩:=Wg.1 hT
      have hl0:¬ ((l.length:Nat):Int)=0:=by have:=List.length_pos_iff.2 hne;omega
      have hkn:k+(11+body.length)≤q:=by rw[List.length_drop,HQ.out] at hnl;omega
      have HP2:Hid (k+(11+body.length)=(ZG (ls++[l])).length∧b=ZG (ls++[l])++b.drop (k+(11+body.length))∧(∀ m∈ls++[l],Yo m)):=Jh (by
       refine ⟨?_,?_,fun m hm=>?_⟩
       ·rw[XN,VC,List.length_append,←hnn,←HP.out.1]
       ·rw[XN,VC,List.append_assoc,←List.drop_drop,←hbd]
        exact HP.out.2.1
       ·rcases List.mem_append.1 hm with hm|hm
        ·exact HP.out.2.2 m hm
        ·rw[List.mem_singleton.1 hm];exact hgl)
      have B5:=Jh (B4.out.trans (hb5.mono B4.out.size))
      have HB5:=Jh (HB4.out.trans (hb5.mono HB4.out.size))
      obtain ⟨ql,hql⟩:=Je (l.length)
      have hcnt:=VL ls HP.out.2.2
      obtain ⟨ss,ho1,hs2,hs3⟩:=HM.out.1.below HB5.out
      have hsl2:ss.length≤100000:=by have:=HP.out.1;omega
      have hal:Below w5.heap.size w5 (w5.alloc (.cells #[.slice za l.length zc] 24)):=(Below.refl _ _).alloc (Nat.le_refl _) _
      obtain ⟨i0,hi,hz0,hz1,hz2⟩:=info_parts Z5N
      have hone:Z0 slc 1 (w5.alloc (.cells #[.slice za l.length zc] 24)) (.slice (some ⟨w5.heap.size,0,none⟩) 1 1) [⟨za,l.length,zc⟩]:=Z0.one (k:=1) (ea:=slc) ⟨za,l.length,zc⟩ 24
      obtain ⟨v',w',hr,ho6,hx6⟩:=Yd (P:=Tryz.prog) 45 45 i0 _ 24 Tryz.underlying45 hi hz0 hz1 hz2 rfl (by omega) S0 Z0r (ho1.alloc _) hone (by unfold maxLen;simp;omega) (by simp;omega) (by have:=B5.out.size;simp;omega)
      obtain ⟨sv,hsv⟩:=ho6.slv
      subst hsv
      have HR:Hid ((Builtin.append_ #[45,45] 45 #[.slice so.a so.n so.cap,.slice (some ⟨w5.heap.size,0,none⟩) 1 1]).run Tryz.prog (w5.alloc (.cells #[.slice za ql zc] 24))=.ok (.slice sv.a sv.n sv.cap) w'):=Jh (by rw[←hql];exact hr)
      have hB6:Below w.heap.size w w':=Ext.new (B5.out.trans (hal.mono B5.out.size)) hx6 (fun i hi _ e=>by have:=(ho1.blk i e).1;omega) (by have:=B5.out.size;simp;omega)
      have keep:∀ (u:Value) (m:List OpD) (bs:Nat),Own OpD.cells 26 68 bs w5 u m→Own OpD.cells 26 68 bs w' u m:=fun u m bs hu=>(hu.alloc _).ext hx6 (fun b hb e=>ZO (Zk hu hb) (Zk ho1 e) (by decide) rfl)
      have HM2:Hid (Xx w.heap.size w' sv.val (ls++[l])∧Below w.heap.size w w'):=Lib.hid ⟨Xx.snoc hs2 (fun i s m h1 h2=>keep _ _ _ (hs3 i s m h1 h2)) ho6 (keep _ _ _ (ho.mono B4.out.size)),hB6⟩
      rw[hql] at hl0 hzc ⊢
      clear hdl ho hb5 hne hT hbd hn0 hnl hgl hnn hcnt ho1 hs2 hs3 hsl2 hal hone hi hz0 hz1 hz2 hr ho6 hx6 hB6 keep hql
      go_wp2_with (at_builtin;refine YV rfl _ _ _ rfl rfl rfl HR.out ?_)
      go_roundg (q - (k+(11+body.length)))
      case measure=>rw[HG.out];omega
      case rel=>exact ⟨ls++[l],k+(11+body.length),sv,rfl,rfl,by simp,hkn,HP2,HM2⟩
    ·have HF:=Jh (TC HP.out HM.out (Z0z HT.out hdn) (B4.out.trans (hb5.mono B4.out.size)) (HB4.out.trans (hb5.mono HB4.out.size)))
     clear hdn hb5
     go_wp2_with fail
     go_ret2
     exact HF.out
   ·have hk2:¬ (kd.toNat:Int)=66:=fun e=>hk (by
     have:kd.toNat=(66:UInt8).toNat:=by show kd.toNat=66;omega
     exact UInt8.toNat_inj.1 this)
    have HF:=Jh (TC HP.out HM.out (SY HT.out hk) B4.out HB4.out)
    clear hown hb4
    go_wp2_with fail
    go_ret2
    exact HF.out
  ·have HF:=Jh (TC HP.out HM.out (Uq ht) (HM.out.2.trans (hb4.mono HM.out.2.size)) hb4)
   clear ht hb4
   go_wp2_with fail
   go_ret2
   exact HF.out
def Z7l (w:World) (v:Value) (ls:List (List OpD)):Prop :=
 ∃ ss:List Sl,Z0 slc 1 w v ss∧ss.length=ls.length∧∀ (i:Nat) (s:Sl) (l:List OpD),ss[i]?=some s→ls[i]?=some l→Z0 OpD.cells 26 w s.val l
theorem Xx.s {base:Nat} {w:World} {v:Value} {ls:List (List OpD)} (h:Xx base w v ls):Z7l w v ls:=by
 obtain ⟨ss,h1,h2,h3⟩:=h
 exact ⟨ss,h1.slice S0,h2,fun i s l hs hl=>(h3 i s l hs hl).slice OpD.len⟩
theorem Z2m {α:Type} {ls:List (List α)} {k:Nat} {l:List α} (h:ls[k]?=some l):(ls.take (k+1)).flatten=(ls.take k).flatten++l:=by
 rw[List.take_add_one,h,Option.toList_some,List.flatten_append,List.flatten_singleton]
theorem QN {α:Type} (ls:List (List α)) (k:Nat):(ls.take k).flatten.length≤ls.flatten.length:=by
 have:=congrArg (fun x=>x.flatten.length) (List.take_append_drop k ls)
 simp only[List.flatten_append,List.length_append] at this
 omega
theorem Z1v (v:Value) (ls:List (List OpD)) (w:World) (h:Z7l w v ls) (hn:ls.flatten.length≤100000000):Calls Tryz.prog 34 #[v] w fun e w'=>∃ v',e=.returned v'∧Own OpD.cells 26 68 w.heap.size w' v' ls.flatten∧Below w.heap.size w w':=by
 obtain ⟨ss,hsl,hss,hin⟩:=h
 obtain ⟨xa,xc,rfl,hxc,hxm,-⟩:=id hsl
 unfold maxLen at hxm
 obtain ⟨q,hq⟩:=Je (ss.length)
 have HQ:=Jh (And.intro hq (hss.symm.trans hq))
 rw[hq] at hsl hxc ⊢
 have HH:=Jh (And.intro hsl hin)
 clear hsl hin hss hq
 go_enter Tryz.func34,Tryz.ntmps34
 go_wp2_with fail
 go_loopg [3,4] q (fun g ov kv wx=>∃ (k:Nat) (so:Sl),g=q - k∧ov=.slice so.a so.n so.cap∧kv=.int .i64 k∧k≤q∧Hid (Own OpD.cells 26 68 w.heap.size wx so.val (ls.take k).flatten∧Below w.heap.size w wx))
 case atStart=>exact ⟨0,⟨none,0,0⟩,rfl,rfl,rfl,Nat.zero_le _,Lib.hid ⟨Own.nil,Below.refl _ _⟩⟩
 case round =>
  obtain ⟨k,so,hg,rfl,rfl,hkq,HM⟩:=hrel
  have HG:=Lib.hid hg
  clear hg
  by_cases hk:k<q
  ·have hk1:(k:Int)<(q:Int):=by omega
   have hk0:(0:Int)≤(k:Int):=by omega
   obtain ⟨s,hs⟩:∃ s,ss[k]?=some s:=⟨_,List.getElem?_eq_getElem (by rw[HQ.out.1];exact hk)⟩
   obtain ⟨l,hl⟩:∃ l,ls[k]?=some l:=⟨_,List.getElem?_eq_getElem (by rw[HQ.out.2];exact hk)⟩
   obtain ⟨sa,sn,sc⟩:=s
   obtain ⟨b,o,rfl,hc0⟩:=HH.out.1.at1 (u:=.slice sa sn sc) hs rfl
   have hc:=ZH HM.out.2 hc0
   have hS:=(HH.out.2 k _ l hs hl).below HM.out.2
   have hft:=Z2m hl
   have hle:=QN ls (k+1)
   rw[hft,List.length_append] at hle
   obtain ⟨i0,hi,hz0,hz1,hz2⟩:=info_parts UJ
   obtain ⟨v',w',hr,ho6,hx6⟩:=Yd (P:=Tryz.prog) 24 24 i0 _ _ Tryz.underlying24 hi hz0 hz1 hz2 rfl (by omega) OpD.len OpD.one HM.out.1 hS (by unfold maxLen;omega) (by omega) HM.out.2.size
   obtain ⟨sv,hsv⟩:=ho6.slv
   subst hsv
   have HR:Hid ((Builtin.append_ #[24,24] 24 #[.slice so.a so.n so.cap,.slice sa sn sc]).run Tryz.prog wr=.ok (.slice sv.a sv.n sv.cap) w'):=Lib.hid hr
   have hB6:Below w.heap.size w w':=Ext.new HM.out.2 hx6 (fun i hi _ e=>by have:=(HM.out.1.blk i e).1;omega) HM.out.2.size
   rw[←hft] at ho6
   have HN:=Jh (And.intro ho6 hB6)
   clear hS hft hle hi hz0 hz1 hz2 hr ho6 hx6 hB6 hc0
   go_wp2_with (at_builtin;refine YV rfl _ _ _ rfl rfl rfl HR.out ?_)
   go_roundg (q - (k+1))
   case measure=>rw[HG.out];omega
   case rel=>exact ⟨k+1,sv,rfl,rfl,by simp,by omega,HN⟩
  ·have hk1:¬ (k:Int)<(q:Int):=by omega
   have HF:Hid (Own OpD.cells 26 68 w.heap.size wr so.val ls.flatten):=Jh (by
    have h9:=HM.out.1
    rwa [List.take_of_length_le (by rw[HQ.out.2];omega)] at h9)
   go_wp2_with fail
   go_ret
   exact ⟨so.val,rfl,HF.out,HM.out.2⟩
theorem Z0T (z:Value) (hz:z.cells=#[z]) (n:Nat):(Builtin.zeroCells z.cells n).toList=List.replicate n z:=by
 rw[hz]
 simp[Builtin.zeroCells]
 apply List.ext_getElem
 ·simp
 ·intro i h1 h2
  simp[Nat.mod_one]
theorem Z5V (k:Nat):(List.replicate k (0:UInt8)).flatMap u8c=List.replicate k (.int .u8 0):=by
 induction k with
 | zero=>rfl
 | succ k ih=>rw[List.replicate_succ,List.flatMap_cons,ih];rfl
theorem RC (l:List UInt8):(l.flatMap u8c).length=l.length:=by
 rw[Zw Z6,Nat.mul_one]
theorem Z38 {base:Nat} {w:World} {v:Value} {l:List UInt8} (ty:TypeId) (hown:Own u8c 1 5 base w v l) (k:Nat) (hb:l.length+k≤70368744177664) (hbase:base≤w.heap.size) :
  ∃ v' w',(Builtin.append_ #[22,3] ty #[v,.int .i64 k]).run Tryz.prog w=.ok v' w'∧Own u8c 1 5 base w' v' (l++List.replicate k 0)∧Ext (fun b=>v.ownBlock=some b) w w':=by
 obtain ⟨i,hi,hz0,hz1,hz2⟩:=info_parts YA
 have ht:Tryz.prog.underlying 22=some (.slice 5):=Tryz.underlying22
 have htn:Tryz.prog.underlying 3=some (.int .i64):=Tryz.underlying3
 have hzc:(Value.int .u8 0).cells=#[.int .u8 0]:=rfl
 have hzl:=Z0T (.int .u8 0) hzc
 have hwr:IntKind.i64.wrap (k:Int)=k:=by rw[IntKind.wrap_i64];omega
 have hcells:((l++List.replicate k 0).flatMap u8c)=l.flatMap u8c++List.replicate k (.int .u8 0):=by rw[List.flatMap_append,Z5V]
 have hlen:((l++List.replicate k 0).flatMap u8c).length=(l++List.replicate k 0).length*1:=by rw[Zw Z6]
 have hll:(l++List.replicate k (0:UInt8)).length=l.length+k:=by simp
 have grown:∀ cap',l.length+k≤cap'→cap'≤maxLen→Own u8c 1 5 base (w.drew.alloc (.cells ((l.flatMap u8c).toArray++Builtin.zeroCells (Value.int .u8 0).cells k++Builtin.zeroCells (Value.int .u8 0).cells (cap' - (l.length+k))) 5)) (.slice (some ⟨w.heap.size,0,none⟩) (l.length+k) cap') (l++List.replicate k 0):=fun cap' h1 h2=>by
  refine ⟨hlen,.inr ⟨w.heap.size,cap',_,by rw[hll],hbase,heap_alloc_new w.drew _,by rw[hll];exact h1,h2,?_,?_⟩⟩
  ·simp only[Array.size_append,List.size_toArray,size_zeroCells,hzc,RC]
   simp
   omega
  ·rw[hcells,hll]
   simp only[Array.toList_append,List.toList_toArray,hzl]
   rw[List.take_left' (by rw[List.length_append,RC,List.length_replicate,Nat.mul_one])]
 have hxt:∀ o:Obj,Ext (fun b=>v.ownBlock=some b) w (w.drew.alloc o):=fun o=>(Ext.refl _ w).drew.alloc o
 rcases hown.eq_slice with ⟨rfl,rfl⟩|⟨g,cap,rfl,hg1,hg2⟩
 ·by_cases hk:k=0
  ·subst hk
   refine ⟨.slice none 0 0,w,?_,by simpa using hown,Ext.refl _ _⟩
   simp[Builtin.append_,run_underlying ht,run_underlying htn,sizeOf,typeInfo,hi,asInt,asIntOf,IntKind.wrap_i64]
  ·have hr:=Lib.run_append_nil_zeros (P:=Tryz.prog) w 22 3 ty 5 i (.int .u8 0) .i64 .i64 ht htn hi hz0 k (by omega) (by omega) (by omega) (by rw[hz2];simp at hb;omega)
   have hg:=grown (grownCap w k 0 5) (by have:=grownCap_ge w k 0 5;simpa using this) (grownCap_le_maxLen w k 0 5 (by unfold maxLen;simp at hb;omega))
   simp only[List.length_nil,Nat.zero_add,List.flatMap_nil,List.nil_append,Array.empty_append] at hg
   exact ⟨_,_,hr,by simpa using hg,hxt _⟩
 ·have hsl:=hown.slice Z6
  obtain ⟨_,_,e1,hn1,hn2,hcs⟩:=hsl
  simp only[Value.slice.injEq] at e1
  obtain ⟨e1,_,rfl⟩:=e1
  have hcell:∀ j u,(l.flatMap u8c)[j]?=some u→w.cell? ((⟨g,0,none⟩:Addr).add j)=some u:=World.ownsRow.cells (g:=g) hown rfl
  by_cases hroom:l.length+k≤cap
  ·obtain ⟨h1,h2⟩:=hown
   rcases h2 with ⟨e3,_⟩|⟨g',cap',cur,e3,hb',hg',hn',hm',hs',ht'⟩
   ·cases e3
   ·cases e3
    have hnews:∀ u∈List.replicate k (Value.int .u8 0),u.oneCell'=true:=fun u hu=>by rw[List.eq_of_mem_replicate hu];rfl
    have hst:=run_storeCells_at Tryz.prog g (l.length*i.size) 5 (List.replicate k (Value.int .u8 0)) 0 cur w hg' (by rw[hz1];simp;omega) hnews
    simp only[Nat.add_zero] at hst
    refine ⟨.slice (some ⟨g,0,none⟩) (l.length+k) cap,w.setRow g (cur.toList.take (l.length*i.size)++List.replicate k (Value.int .u8 0)++cur.toList.drop (l.length*i.size+(List.replicate k (Value.int .u8 0)).length)).toArray,?_,?_,?_⟩
    ·have hneg:¬ ((k:Int)<0):=by omega
     have h48:¬ (281474976710656<(k:Int)*(i.bytes:Int)):=by rw[hz2];omega
     by_cases hk0:k=0
     ·subst hk0
      have e5:w.setRow g (cur.toList.take (l.length*i.size)++List.replicate 0 (Value.int .u8 0)++cur.toList.drop (l.length*i.size+(List.replicate 0 (Value.int .u8 0)).length)).toArray=w:=by
       simp only[List.replicate_zero,List.append_nil,List.length_nil,Nat.add_zero,List.take_append_drop,Array.toArray_toList]
       exact setRow_self w g cur 5 (0,0) hg'
      rw[e5]
      simp[Builtin.append_,run_underlying ht,run_underlying htn,sizeOf,typeInfo,hi,asInt,asIntOf,IntKind.wrap_i64,hn1,storeCells]
     ·have hne:¬ (k*i.size=0):=by rw[hz1];omega
      simp[Builtin.append_,run_underlying ht,run_underlying htn,sizeOf,typeInfo,hi,asInt,asIntOf,hwr,hneg,h48,hroom,hne,zeroValue,hz0,Addr.add_lit,hzl,hst]
    ·refine ⟨hlen,.inr ⟨g,cap,_,by rw[hll],hb',setRow_heap w g cur _ 5 _ hg',by rw[hll];exact hroom,hm',?_,?_⟩⟩
     ·simp only[List.size_toArray,List.length_append,List.length_take,List.length_drop,Array.length_toList,List.length_replicate]
      rw[hz1]
      omega
     ·rw[hcells,hll,hz1]
      simp only[List.toList_toArray]
      rw[←ht',Nat.mul_one]
      have hcl:cur.toList.length=cur.size:=by simp
      rw[List.take_left' (by rw[List.length_append,List.length_take,List.length_replicate];omega)]
    ·exact ⟨rfl,rfl,rfl,by simp,fun b _ hb=>setRow_other w g b _ (fun e=>hb (by simp[Value.ownBlock,e]))⟩
  ·have hf:=run_firstCells_some (P:=Tryz.prog) w.drew i.size l.length ⟨g,0,none⟩ l.length cap (l.flatMap u8c) (by rw[hz1,RC,Nat.mul_one]) (by simpa using hcell)
   have hr:=Lib.run_append_grow_zeros (P:=Tryz.prog) w 22 3 ty 5 i (.int .u8 0) .i64 .i64 ht htn hi hz0 (some ⟨g,0,none⟩) l.length cap (l.flatMap u8c) hf k (by omega) (by omega) (by omega) (by omega) (by rw[hz2];omega) (growslice_fits (by omega) (by rw[hz2];omega))
   have hg:=grown (grownCap w (l.length+k) cap 5) (grownCap_ge w _ _ _) (grownCap_le_maxLen w _ _ _ (by unfold maxLen;omega))
   exact ⟨_,_,hr,hg,hxt _⟩
structure Vn where
 out:List UInt8
 fin:Nat
 n:Nat
def Zr (at_:Int) (ks:List Bool) (torn:Int) (s:Vn) (p:PcA):Vn :=
 if at_<p.came then s
 else if p.safe≠0∧p.safe≤at_ then ⟨s.out++p.bs,(s.out++p.bs).length,s.n⟩
 else if ks[s.n]?=some true then ⟨s.out++p.bs,s.out.length+X5 torn (p.bs.length+1),s.n+1⟩
 else ⟨s.out++List.replicate p.bs.length 0,s.fin,s.n+1⟩
def XY (at_:Int) (ks:List Bool) (torn:Int) (ps:List PcA):Vn:=ps.foldl (Zr at_ ks torn) ⟨[],0,0⟩
def XG (at_:Int) (ks:List Bool) (torn:Int) (ps:List PcA):List UInt8:=(XY at_ ks torn ps).out.take (XY at_ ks torn ps).fin
theorem Z0b {at_ torn:Int} {ks:List Bool} {ps:List PcA} {k:Nat} {p:PcA} (h:ps[k]?=some p):XY at_ ks torn (ps.take (k+1))=Zr at_ ks torn (XY at_ ks torn (ps.take k)) p:=by
 unfold XY
 rw[List.take_add_one,h,Option.toList_some,List.foldl_append]
 rfl
theorem RL {at_ torn:Int} {ks:List Bool} {s:Vn} (p:PcA) (h:s.fin≤s.out.length):(Zr at_ ks torn s p).fin≤(Zr at_ ks torn s p).out.length∧(Zr at_ ks torn s p).out.length≤s.out.length+p.bs.length∧(Zr at_ ks torn s p).n≤s.n+1:=by
 have hp:=U0 torn (show 0<p.bs.length+1 by omega)
 unfold Zr
 split
 ·exact ⟨h,by omega,by omega⟩
 ·split
  ·exact ⟨Nat.le_refl _,by simp,by simp⟩
  ·split
   ·exact ⟨by simp;omega,by simp,by simp⟩
   ·exact ⟨by simp;omega,by simp,by simp⟩
theorem Z30 (at_ torn:Int) (ks:List Bool) (ps:List PcA):∀ k,(XY at_ ks torn (ps.take k)).fin≤(XY at_ ks torn (ps.take k)).out.length∧(XY at_ ks torn (ps.take k)).out.length≤ZB (ps.take k)∧(XY at_ ks torn (ps.take k)).n≤k
 | 0=>by simp[XY]
 | k+1=>by
  have ih:=Z30 at_ torn ks ps k
  cases h:ps[k]? with
  | none =>
   have:ps.take (k+1)=ps.take k:=by rw[List.take_add_one,h,Option.toList_none,List.append_nil]
   rw[this]
   exact ⟨ih.1,ih.2.1,by omega⟩
  | some p =>
   rw[Z0b h]
   have:=RL (at_:=at_) (torn:=torn) (ks:=ks) p ih.1
   refine ⟨this.1,?_,by omega⟩
   rw[List.take_add_one,h,Option.toList_some,VW]
   omega
theorem Own.takeN {base:Nat} {w:World} {a:Option Addr} {cap:Nat} {l:List UInt8} (h:Own u8c 1 5 base w (.slice a l.length cap) l) (m:Nat) (hm:m≤l.length):Own u8c 1 5 base w (.slice a m cap) (l.take m):=by
 have hl:(l.take m).length=m:=by rw[List.length_take];omega
 obtain ⟨h1,h2⟩:=h
 refine ⟨by rw[Zw Z6],?_⟩
 rcases h2 with ⟨e,e2⟩|⟨g,cap',cur,e,hb,hg,hn,hmx,hs,ht⟩
 ·simp only[Value.slice.injEq] at e
  obtain ⟨rfl,h0,rfl⟩:=e
  have hm0:m=0:=by omega
  subst hm0
  exact .inl ⟨rfl,by simp⟩
 ·simp only[Value.slice.injEq] at e
  obtain ⟨rfl,_,rfl⟩:=e
  refine .inr ⟨g,cap,cur,by rw[hl],hb,hg,by rw[hl];omega,hmx,hs,?_⟩
  rw[hl,Nat.mul_one]
  have h3:(l.take m).flatMap u8c=(l.flatMap u8c).take m:=by
   conv=>rhs;rw[←List.take_append_drop m l]
   rw[List.flatMap_append,List.take_left' (by rw[RC,hl])]
  rw[h3,←ht,List.take_take,Nat.mul_one]
  congr 1
  omega
def Z2U (w:World) (at_:Int) (ks:List Bool) (torn:Int) (ps:List PcA) (e:Ending) (w':World):Prop :=
 ∃ v,e=.returned v∧Own u8c 1 5 w.heap.size w' v (XG at_ ks torn ps)∧Below w.heap.size w w'
theorem Z65 {base:Nat} {w:World} {f:Nat} {vr vk:Value} {ps:List PcA} (h:XF base w f vr ps) (at_:Int) (ks:List Bool) (torn:Int) (hk:Z0 Z7j 1 w vk ks) (ht1:-9223372036854775808≤torn) (ht2:torn≤9223372036854775807) (hsz:ZB ps≤1048576) (hlen:ps.length≤1000000) :
  Calls Tryz.prog 77 #[.pointer (some ⟨f,0,none⟩),.int .i64 at_,vk,.int .i64 torn] w fun e w'=>Z2U w at_ ks torn ps e w':=by
 obtain ⟨i0,hi,hz0,hz1,hz2⟩:=info_parts YA
 obtain ⟨hbf,hfb,qs,hqo,hql,hqp⟩:=h
 obtain ⟨va,vcap,rfl,_,hvm,hvg⟩:=hqo.shape Pc.len
 obtain ⟨ka,kc,rfl,hkc,hkm,hkk⟩:=hk
 have f0:=Joins.cell_of_block hfb 0
 simp only[List.getElem?_toArray,List.getElem?_cons_succ,List.getElem?_cons_zero] at f0
 have hlq:qs.length≤1000000:=by omega
 unfold maxLen at hvm hkm
 have HQO:=Lib.hid hqo
 have HQP:=Lib.hid hqp
 have HQL:=Lib.hid hql
 have HKK:=Lib.hid hkk
 have HVG:=Lib.hid hvg
 clear hfb hqo hqp hql hkk hlen hvg
 go_enter Tryz.func77,Tryz.ntmps77
 go_wp2_with fail
 go_loopg [9,10,11,19] qs.length (fun g vv ev nv iv wr=>∃ (k:Nat) (s:Sl) (S:Vn),g=qs.length - k∧k≤qs.length∧vv=.slice s.a s.n s.cap∧ev=.int .i64 S.fin∧nv=.int .i64 S.n∧iv=.int .i64 k∧S.n≤k∧S.fin≤S.out.length∧S.out.length≤ZB (ps.take k)∧Hid (S=XY at_ ks torn (ps.take k)∧Own u8c 1 5 w.heap.size wr (.slice s.a s.n s.cap) S.out∧Below w.heap.size w wr))
 case atStart=>exact ⟨0,⟨none,0,0⟩,⟨[],0,0⟩,by omega,by omega,rfl,rfl,rfl,rfl,by simp,by simp,by simp,Lib.hid ⟨by simp[XY],Own.nil,Below.refl _ _⟩⟩
 case round =>
  obtain ⟨k,⟨sa,sn,sc⟩,⟨out,fin,n⟩,hg,hk,rfl,rfl,rfl,rfl,hnk,hfo,hos,hU⟩:=hrel
  dsimp only at hU hnk hfo hos ⊢
  have HG:=Lib.hid hg
  clear hg
  obtain ⟨esn⟩:sn=out.length:=by
   obtain ⟨_,_,e,_⟩:=hU.out.2.1.slice Z6
   simp only[Value.slice.injEq] at e
   exact e.2.1
  by_cases hkl:k<qs.length
  ·obtain ⟨q,hq⟩:∃ q,qs[k]?=some q:=⟨_,List.getElem?_eq_getElem hkl⟩
   obtain ⟨⟨pb,pcm,psf⟩,hp⟩:∃ p,ps[k]?=some p:=⟨_,List.getElem?_eq_getElem (by rw[←HQL.out];exact hkl)⟩
   obtain ⟨⟨qa,qn,qc⟩,qcame,qsafe⟩:=q
   obtain ⟨pown,pcame,psafe⟩:=HQP.out k _ _ hq hp
   dsimp only at pcame psafe
   obtain ⟨g,e1,_⟩:=HVG.out (by intro e;rw[e] at hq;simp at hq)
   subst e1
   have q0:=ZH hU.out.2.2 (HQO.out.cellAt Pc.len hq (j:=0) rfl)
   have q1:=ZH hU.out.2.2 (HQO.out.cellAt Pc.len hq (j:=1) rfl)
   have q2:=ZH hU.out.2.2 (HQO.out.cellAt Pc.len hq (j:=2) rfl)
   simp only[Nat.add_zero] at q0
   have hkk:(k:Int)<(qs.length:Int):=by omega
   have hst:=Z0b (at_:=at_) (torn:=torn) (ks:=ks) hp
   rw[←hU.out.1] at hst
   have hbnd:=Z12 hp
   have hbsz:=QW ps (k+1)
   have hok:=RL (at_:=at_) (torn:=torn) (ks:=ks) (s:=⟨out,fin,n⟩) ⟨pb,pcm,psf⟩ hfo
   obtain ⟨eqn⟩:qn=pb.length:=by
    obtain ⟨_,_,e,_⟩:=pown.slice Z6
    simp only[Sl.val,Value.slice.injEq] at e
    exact e.2.1
   have pcame':=pcame.symm
   have psafe':=psafe.symm
   subst pcame' psafe'
   clear pcame psafe
   obtain ⟨ob,hob⟩:∃ ob:Obj,.cells #[.slice qa pb.length qc,.int .i64 pcm,.int .i64 psf] 131=ob:=⟨_,rfl⟩
   have hB:=hU.out.2.2.alloc hU.out.2.2.size ob
   have hO:=hU.out.2.1.alloc ob
   have hsz2:ZB (ps.take (k+1))=ZB (ps.take k)+pb.length:=by rw[List.take_add_one,hp,Option.toList_some,VW]
   have HST:Hid (∀ S',Zr at_ ks torn ⟨out,fin,n⟩ ⟨pb,pcm,psf⟩=S'→S'=XY at_ ks torn (ps.take (k+1))∧S'.n≤k+1∧S'.fin≤S'.out.length∧S'.out.length≤ZB (ps.take (k+1))):=Jh (fun S' e=>by
    rw[e] at hst hok
    dsimp only at hok
    exact ⟨hst.symm,by omega,hok.1,by omega⟩)
   have hba:=Below.refl wr.heap.size wr |>.alloc (Nat.le_refl _) ob
   obtain ⟨va2,wa,hra,howna,hxa⟩:=Yd (P:=Tryz.prog) 22 22 i0 _ 1 Tryz.underlying22 hi hz0 hz1 hz2 rfl (by omega) Z6 XU hO (((pown.slice Z6).below hU.out.2.2).below hba) (by unfold maxLen;omega) (by omega) (by have:=hB.size;omega)
   have hBa:=Ext.new hB hxa (fun i hi _ e=>by have:=(hO.blk i e).1;omega) hB.size
   obtain ⟨⟨aa,an,ac⟩,ea⟩:=howna.slv
   change va2=.slice aa an ac at ea
   subst ea
   obtain ⟨ean⟩:an=(out++pb).length:=by
    obtain ⟨_,_,e,_⟩:=howna.slice Z6
    simp only[Value.slice.injEq] at e
    exact e.2.1
   rw[List.length_append] at hra howna
   obtain ⟨vz2,wz,hrz,hownz,hxz⟩:=Z38 22 hO pb.length (by omega) (by have:=hB.size;omega)
   have hBz:=Ext.new hB hxz (fun i hi _ e=>by have:=(hO.blk i e).1;omega) hB.size
   obtain ⟨⟨za,zn,zc⟩,ez⟩:=hownz.slv
   change vz2=.slice za zn zc at ez
   subst ez
   obtain ⟨ezn⟩:zn=(out++List.replicate pb.length (0:UInt8)).length:=by
    obtain ⟨_,_,e,_⟩:=hownz.slice Z6
    simp only[Value.slice.injEq] at e
    exact e.2.1
   rw[List.length_append,List.length_replicate] at hrz hownz
   have hpk:=Q5 torn (pb.length+1) ht1 ht2 (by omega) (by omega)
   have hpkl:=U0 torn (show 0<pb.length+1 by omega)
   obtain ⟨pk,hpke⟩:=Je (X5 torn (pb.length+1))
   rw[hpke] at hpkl
   have hpb:pb.length≤1048576:=by omega
   have hob1:out.length≤1048576:=by omega
   have HRA:=Lib.hid hra
   have HNA:=Jh (And.intro howna hBa)
   have HRZ:=Lib.hid hrz
   have HNZ:=Jh (And.intro hownz hBz)
   have HPK:=Lib.hid hpk
   have HPE:=Lib.hid hpke
   have HN0:=Jh (And.intro hO hB)
   have hbk:∀ b o u,wr.cell? ⟨b,o,none⟩=some u→(wr.alloc ob).cell? ⟨b,o,none⟩=some u:=fun b o u h=>Zy h _
   have HBK:=Lib.hid hbk
   have HU:=Lib.hid hU.out.2.2
   subst hob
   clear hst hok hbnd hbsz hsz2 hba hra howna hxa hBa hrz hownz hxz hBz hpk hpke hO hB hU hq hp pown hos hfo hbk
   by_cases hca:at_<pcm
   ·have htr:True:=trivial
    have HSS:=Jh (HST.out ⟨out,fin,n⟩ (by unfold Zr;rw[if_pos hca]))
    clear HRA HRZ HPK
    go_wp2_with fail
    go_roundg (qs.length - (k+1))
    case measure=>rw[HG.out];omega
    case rel=>exact ⟨k+1,⟨sa,out.length,sc⟩,⟨out,fin,n⟩,rfl,by omega,rfl,by simp,by simp,by simp,HSS.out.2.1,HSS.out.2.2.1,HSS.out.2.2.2,Lib.hid ⟨HSS.out.1,HN0.out.1,HN0.out.2⟩⟩
   ·by_cases hs0:psf=0
    ·subst hs0
     by_cases hnk2:n<ks.length
     ·obtain ⟨kb,hkb⟩:∃ kb,ks[n]?=some kb:=⟨_,List.getElem?_eq_getElem hnk2⟩
      obtain ⟨bk,ok2,ek,hkc2⟩:=HKK.out (by intro e;rw[e] at hkb;simp at hkb)
      subst ek
      have kk0:=ZH HU.out (hkc2 n kb hkb 0 _ rfl)
      simp only[Nat.add_zero,Nat.mul_one] at kk0
      have hbkl:=Zu kk0
      have hnk3:(n:Int)<(ks.length:Int):=by omega
      clear hkc2
      cases kb with
      | true =>
       have HSS:=Jh (HST.out ⟨out++pb,out.length+pk,n+1⟩ (by unfold Zr;rw[if_neg hca,if_neg (fun h=>h.1 rfl),if_pos hkb];rw[HPE.out]))
       clear HRZ
       go_wp2_with fail
       refine (HPK.out _).mono ?_
       rintro e w4 ⟨rfl,e4⟩
       have e4':=e4.symm
       subst e4'
       rw[HPE.out]
       go_wp2_with (at_builtin;refine Lib.wpList_append_run _ rfl _ _ _ _ rfl _ _ rfl rfl _ _ HRA.out ?_)
       go_roundg (qs.length - (k+1))
       case measure=>rw[HG.out];omega
       case rel=>exact ⟨k+1,⟨aa,out.length+pb.length,ac⟩,⟨out++pb,out.length+pk,n+1⟩,rfl,by omega,rfl,by simp,by simp,by simp,HSS.out.2.1,HSS.out.2.2.1,HSS.out.2.2.2,Lib.hid ⟨HSS.out.1,HNA.out.1,HNA.out.2⟩⟩
      | false =>
       have HSS:=Jh (HST.out ⟨out++List.replicate pb.length 0,fin,n+1⟩ (by unfold Zr;rw[if_neg hca,if_neg (fun h=>h.1 rfl),if_neg (by rw[hkb];simp)]))
       clear HRA HPK
       go_wp2_with (at_builtin;refine Lib.wpList_append_run _ rfl _ _ _ _ rfl _ _ rfl rfl _ _ HRZ.out ?_)
       go_roundg (qs.length - (k+1))
       case measure=>rw[HG.out];omega
       case rel=>exact ⟨k+1,⟨za,out.length+pb.length,zc⟩,⟨out++List.replicate pb.length 0,fin,n+1⟩,rfl,by omega,rfl,by simp,by simp,by simp,HSS.out.2.1,HSS.out.2.2.1,HSS.out.2.2.2,Lib.hid ⟨HSS.out.1,HNZ.out.1,HNZ.out.2⟩⟩
     ·have hnk3:¬ (n:Int)<(ks.length:Int):=by omega
      have HSS:=Jh (HST.out ⟨out++List.replicate pb.length 0,fin,n+1⟩ (by unfold Zr;rw[if_neg hca,if_neg (fun h=>h.1 rfl),if_neg (by rw[List.getElem?_eq_none (show ks.length≤n by omega)];simp)]))
      clear HRA HPK
      go_wp2_with (at_builtin;refine Lib.wpList_append_run _ rfl _ _ _ _ rfl _ _ rfl rfl _ _ HRZ.out ?_)
      go_roundg (qs.length - (k+1))
      case measure=>rw[HG.out];omega
      case rel=>exact ⟨k+1,⟨za,out.length+pb.length,zc⟩,⟨out++List.replicate pb.length 0,fin,n+1⟩,rfl,by omega,rfl,by simp,by simp,by simp,HSS.out.2.1,HSS.out.2.2.1,HSS.out.2.2.2,Lib.hid ⟨HSS.out.1,HNZ.out.1,HNZ.out.2⟩⟩
    ·by_cases hsa:psf≤at_
     ·have htr:True:=trivial
      have HSS:=Jh (HST.out ⟨out++pb,(out++pb).length,n⟩ (by unfold Zr;rw[if_neg hca,if_pos ⟨hs0,hsa⟩]))
      clear HRZ HPK
      go_wp2_with (at_builtin;refine Lib.wpList_append_run _ rfl _ _ _ _ rfl _ _ rfl rfl _ _ HRA.out ?_)
      go_roundg (qs.length - (k+1))
      case measure=>rw[HG.out];omega
      case rel=>exact ⟨k+1,⟨aa,out.length+pb.length,ac⟩,⟨out++pb,(out++pb).length,n⟩,rfl,by omega,rfl,by simp,by simp,by simp,HSS.out.2.1,HSS.out.2.2.1,HSS.out.2.2.2,Lib.hid ⟨HSS.out.1,HNA.out.1,HNA.out.2⟩⟩
     ·have htr:True:=trivial
      by_cases hnk2:n<ks.length
      ·obtain ⟨kb,hkb⟩:∃ kb,ks[n]?=some kb:=⟨_,List.getElem?_eq_getElem hnk2⟩
       obtain ⟨bk,ok2,ek,hkc2⟩:=HKK.out (by intro e;rw[e] at hkb;simp at hkb)
       subst ek
       have kk0:=ZH HU.out (hkc2 n kb hkb 0 _ rfl)
       simp only[Nat.add_zero,Nat.mul_one] at kk0
       have hbkl:=Zu kk0
       have hnk3:(n:Int)<(ks.length:Int):=by omega
       clear hkc2
       cases kb with
       | true =>
        have HSS:=Jh (HST.out ⟨out++pb,out.length+pk,n+1⟩ (by unfold Zr;rw[if_neg hca,if_neg (fun h=>hsa h.2),if_pos hkb];rw[HPE.out]))
        clear HRZ
        go_wp2_with fail
        refine (HPK.out _).mono ?_
        rintro e w4 ⟨rfl,e4⟩
        have e4':=e4.symm
        subst e4'
        rw[HPE.out]
        go_wp2_with (at_builtin;refine Lib.wpList_append_run _ rfl _ _ _ _ rfl _ _ rfl rfl _ _ HRA.out ?_)
        go_roundg (qs.length - (k+1))
        case measure=>rw[HG.out];omega
        case rel=>exact ⟨k+1,⟨aa,out.length+pb.length,ac⟩,⟨out++pb,out.length+pk,n+1⟩,rfl,by omega,rfl,by simp,by simp,by simp,HSS.out.2.1,HSS.out.2.2.1,HSS.out.2.2.2,Lib.hid ⟨HSS.out.1,HNA.out.1,HNA.out.2⟩⟩
       | false =>
        have HSS:=Jh (HST.out ⟨out++List.replicate pb.length 0,fin,n+1⟩ (by unfold Zr;rw[if_neg hca,if_neg (fun h=>hsa h.2),if_neg (by rw[hkb];simp)]))
        clear HRA HPK
        go_wp2_with (at_builtin;refine Lib.wpList_append_run _ rfl _ _ _ _ rfl _ _ rfl rfl _ _ HRZ.out ?_)
        go_roundg (qs.length - (k+1))
        case measure=>rw[HG.out];omega
        case rel=>exact ⟨k+1,⟨za,out.length+pb.length,zc⟩,⟨out++List.replicate pb.length 0,fin,n+1⟩,rfl,by omega,rfl,by simp,by simp,by simp,HSS.out.2.1,HSS.out.2.2.1,HSS.out.2.2.2,Lib.hid ⟨HSS.out.1,HNZ.out.1,HNZ.out.2⟩⟩
      ·have hnk3:¬ (n:Int)<(ks.length:Int):=by omega
       have HSS:=Jh (HST.out ⟨out++List.replicate pb.length 0,fin,n+1⟩ (by unfold Zr;rw[if_neg hca,if_neg (fun h=>hsa h.2),if_neg (by rw[List.getElem?_eq_none (show ks.length≤n by omega)];simp)]))
       clear HRA HPK
       go_wp2_with (at_builtin;refine Lib.wpList_append_run _ rfl _ _ _ _ rfl _ _ rfl rfl _ _ HRZ.out ?_)
       go_roundg (qs.length - (k+1))
       case measure=>rw[HG.out];omega
       case rel=>exact ⟨k+1,⟨za,out.length+pb.length,zc⟩,⟨out++List.replicate pb.length 0,fin,n+1⟩,rfl,by omega,rfl,by simp,by simp,by simp,HSS.out.2.1,HSS.out.2.2.1,HSS.out.2.2.2,Lib.hid ⟨HSS.out.1,HNZ.out.1,HNZ.out.2⟩⟩
  ·obtain rfl:k=qs.length:=by omega
   have hS:=hU.out.1
   rw[HQL.out,List.take_length] at hS
   have hN:Hid (Z2U w at_ ks torn ps (.returned (.slice sa fin sc)) wr):=Lib.hid ⟨_,rfl,by unfold XG;rw[←hS];exact hU.out.2.1.takeN fin hfo,hU.out.2.2⟩
   obtain ⟨_,_,e9,hsc,hsm,_⟩:=hU.out.2.1.slice Z6
   simp only[Value.slice.injEq] at e9
   obtain ⟨rfl,_,rfl⟩:=e9
   unfold maxLen at hsm
   have hfo2:(fin:Int)≤(out.length:Int):=by omega
   have hfo3:(fin:Int)≤(sc:Int):=by omega
   clear hU hS
   go_wp2
   go_ret
   exact hN.out
section
variable {base:Nat} {w w':World} {D:DSh} {A:Z4}
theorem Zb.bornFull (h:Zb base w D A) (hb:Below w.heap.size w w') {fb:Nat} {v:Value} {ps:List PcA} (hf:XF base w' fb v ps) (h1:w.heap.size≤fb) (h2:∀ b,v.ownBlock=some b→w.heap.size≤b) (hz:ZB ps≤1048576) :
  Zb base w' { D with rv:=fun g=>if g=fb then v else D.rv g } { A with ids:=fb :: A.ids,fs:=fun g=>if g=fb then ps else A.fs g }:=by
 have h0:=h.below hb
 have hn:∀ f∈A.ids,f≠fb:=fun f hf=>by have:=(h.file f hf).lt;omega
 refine { h0 with file:=fun g hg=>?_,apart:=fun g k hg hk hne b hb hb'=>?_,ok:=?_ }
 ·rcases List.mem_cons.1 hg with rfl|hg
  ·dsimp only
   rw[if_pos rfl,if_pos rfl]
   exact hf
  ·dsimp only
   rw[if_neg (hn g hg),if_neg (hn g hg)]
   exact h0.file g hg
 ·dsimp only at hb hb'
  have old:∀ g∈A.ids,∀ b,(D.rv g).ownBlock=some b→b<w.heap.size:=fun g hg b hb=>WT ((h.file g hg).row hb).1
  rcases List.mem_cons.1 hg with e1|hg1
  ·rw[if_pos e1] at hb
   rcases List.mem_cons.1 hk with e2|hk1
   ·exact hne (e1.trans e2.symm)
   ·rw[if_neg (hn k hk1)] at hb'
    have:=h2 b hb;have:=old k hk1 b hb';omega
  ·rw[if_neg (hn g hg1)] at hb
   rcases List.mem_cons.1 hk with e2|hk1
   ·rw[if_pos e2] at hb'
    have:=h2 b hb';have:=old g hg1 b hb;omega
   ·rw[if_neg (hn k hk1)] at hb'
    exact h.apart g k hg1 hk1 hne b hb hb'
 ·refine ⟨fun n f hf=>⟨List.mem_cons_of_mem _ (h.ok.inf n f hf).1,(h.ok.inf n f hf).2⟩,fun n f hf=>⟨List.mem_cons_of_mem _ (h.ok.inb n f hf).1,(h.ok.inb n f hf).2⟩,fun c hc f hf=>⟨List.mem_cons_of_mem _ (h.ok.inc c hc f hf).1,(h.ok.inc c hc f hf).2⟩,fun g hg=>?_⟩
  rcases List.mem_cons.1 hg with rfl|hg
  ·dsimp only
   rw[if_pos rfl]
   exact hz
  ·dsimp only
   rw[if_neg (hn g hg)]
   exact h.ok.sz g hg
theorem Zb.bases (h:Zb base w D A) (hx:Ext (·=D.mb) w w') {bs:List (ByteArray × Nat)} (hm:Zq Value.string YX w' D.mb bs) (hok:∀ n f,(n,f)∈bs→f∈A.ids∧n.size≤8):Zb base w' D { A with base:=bs }:=by
 have key:∀ b T,Ys w b=some T→¬ b=D.mb:=fun b T ht=>ZO ht (Xl h.mbase) (by simp)
 exact {
  blk:=(hx.block _ h.lpb (key _ _ h.tpb)).trans h.blk
  lo:=h.lo
  lof:=h.lof
  lob:=h.lob
  ne:=h.ne
  mfiles:=h.mfiles.ext hx (fun e=>h.ne e)
  mbase:=hm
  ochg:=h.ochg.ext hx (fun b hb=>key _ _ (Zk h.ochg hb))
  osyn:=h.osyn.ext hx (fun b hb=>key _ _ (Zk h.osyn hb))
  file:=fun f hf=>(h.file f hf).ext hx (key _ _ (h.file f hf).tag) (fun b hb=>key _ _ ((h.file f hf).row hb).1) (fun b hb ht=>key _ _ ht)
  apart:=h.apart
  ok:=⟨h.ok.inf,hok,h.ok.inc,h.ok.sz⟩ }
theorem Zb.reMap (h:Zb base w D A) {mf:Nat} {files:List (ByteArray × Nat)} (hm:Zq Value.string YX w mf files) (hl:base≤mf) (hne:mf≠D.mb) (hok:∀ n f,(n,f)∈files→f∈A.ids∧n.size≤8) :
  Zb base (w.setCell ⟨D.pb,0,none⟩ (.map (some mf))) { D with mf:=mf } { A with files:=files }:=by
 have hx:=YO w D.pb 0 (.map (some mf))
 have key:∀ b T,Ys w b=T→T≠some 118→¬ b=D.pb:=fun b T ht hT=>ZO ht h.tpb hT
 exact {
  blk:=by
   have:=Joins.block_setCell (i:=0) h.blk (.map (some mf))
   exact this
  lo:=h.lo
  lof:=hl
  lob:=h.lob
  ne:=hne
  mfiles:=hm.ext hx (key _ _ (Xl hm) (by decide))
  mbase:=h.mbase.ext hx (key _ _ (Xl h.mbase) (by decide))
  ochg:=h.ochg.ext hx (fun b hb=>key _ _ (Zk h.ochg hb) (by decide))
  osyn:=h.osyn.ext hx (fun b hb=>key _ _ (Zk h.osyn hb) (by decide))
  file:=fun f hf=>(h.file f hf).ext hx (key _ _ (h.file f hf).tag (by decide)) (fun b hb=>key _ _ ((h.file f hf).row hb).1 (by decide)) (fun b hb ht=>key _ _ ht (by decide))
  apart:=h.apart
  ok:=⟨hok,h.ok.inb,h.ok.inc,h.ok.sz⟩ }
end
structure SG (A:Z4) (m:List (ByteArray × Nat)) (at_:Int) (ks:List Bool) (torn:Int) (A':Z4):Prop where
 chg:A'.chg=[]
 syn:A'.syn=[]
 now:A'.now=0
 perm:(A'.base.map (·.1)).Perm (m.map (·.1))
 has:∀ n f,(n,f)∈m→∃ fb,Z8 A'.base n=some fb∧fb∈A'.ids∧A'.fs fb=[⟨XG at_ ks torn (A.fs f),0,-1⟩]
 vals:∀ n fb,Z8 A'.base n=some fb→fb∈A'.ids
 one:∀ n n' fb,Z8 A'.base n=some fb→Z8 A'.base n'=some fb→n=n'
 ln:∀ f∈A'.ids,(A'.fs f).length≤1
 pc:∀ f∈A'.ids,∃ bs,A'.fs f=[⟨bs,0,-1⟩]
theorem Z8b (A:Z4) (at_:Int) (ks:List Bool) (torn:Int):SG A [] at_ ks torn Xa:=⟨rfl,rfl,rfl,List.Perm.refl _,fun n f h=>(by cases h),fun n f h=>(by cases h),fun n n' fb h=>(by cases h),fun f h=>(by cases h),fun f h=>(by cases h)⟩
def U7 (n:ByteArray) (fb:Nat) (bs:List UInt8) (A':Z4):Z4:={ A' with ids:=fb :: A'.ids,fs:=fun g=>if g=fb then [⟨bs,0,-1⟩] else A'.fs g,base:=Xd A'.base n fb }
theorem SG.step {A A':Z4} {m:List (ByteArray × Nat)} {at_ torn:Int} {ks:List Bool} (h:SG A m at_ ks torn A') {n:ByteArray} {f fb:Nat} (hn:n∉m.map (·.1)) (hfb:fb∉A'.ids):SG A (m++[(n,f)]) at_ ks torn (U7 n fb (XG at_ ks torn (A.fs f)) A'):=by
 have hnb:n∉A'.base.map (·.1):=fun e=>hn (h.perm.subset e)
 have hi:Yb A'.base n=none:=by
  cases hi:Yb A'.base n with
  | none=>rfl
  | some i =>
   obtain ⟨v,e,_⟩:=Ui hi
   exact absurd (List.mem_map.2 ⟨(n,v),List.mem_of_getElem? e,rfl⟩) hnb
 have hg:∀ k,Z8 (Xd A'.base n fb) k=if k=n then some fb else Z8 A'.base k:=fun k=>by
  by_cases e:k=n
  ·subst e;rw[if_pos rfl];exact U9 _ _ _
  ·rw[if_neg e];exact Ty _ _ (fun e'=>e e'.symm)
 refine ⟨h.chg,h.syn,h.now,?_,fun k g hk=>?_,fun k b hk=>?_,fun k k' b hk hk'=>?_,fun g hg=>?_,fun g hg=>?_⟩
 ·show ((Xd A'.base n fb).map (·.1)).Perm _
  rw[Uo hi,List.map_append,List.map_append]
  exact h.perm.append_right _
 ·simp only[U7]
  rcases List.mem_append.1 hk with hk|hk
  ·obtain ⟨b,h1,h2,h3⟩:=h.has k g hk
   have hkn:k≠n:=fun e=>hn (List.mem_map.2 ⟨(k,g),hk,e⟩)
   have hbf:b≠fb:=fun e=>hfb (by rw[←e];exact h2)
   exact ⟨b,by rw[hg,if_neg hkn];exact h1,List.mem_cons_of_mem _ h2,by rw[if_neg hbf];exact h3⟩
  ·simp at hk
   obtain ⟨rfl,rfl⟩:=hk
   exact ⟨fb,by rw[hg,if_pos rfl],List.mem_cons_self,by rw[if_pos rfl]⟩
 ·simp only[U7] at hk ⊢
  rw[hg] at hk
  split at hk
  ·cases hk;exact List.mem_cons_self
  ·exact List.mem_cons_of_mem _ (h.vals k b hk)
 ·simp only[U7] at hk hk'
  rw[hg] at hk hk'
  split at hk
  ·rename_i e1
   cases hk
   split at hk'
   ·rename_i e2;rw[e1,e2]
   ·exact absurd (h.vals k' fb hk') hfb
  ·split at hk'
   ·cases hk'
    exact absurd (h.vals k fb hk) hfb
   ·exact h.one k k' b hk hk'
 ·simp only[U7] at hg ⊢
  split
  ·simp
  ·rename_i e
   exact h.ln g ((List.mem_cons.1 hg).resolve_left e)
 ·simp only[U7] at hg ⊢
  split
  ·exact ⟨_,rfl⟩
  ·rename_i e
   exact h.pc g ((List.mem_cons.1 hg).resolve_left e)
end Go.Proofs.YtgmdimbiipemhaaGreatDoor
namespace Go.Proofs.YtgmdimbiipemhaaGreatDoor
open Go.RowKit
section
variable {K V:Type} [DecidableEq K] {ek:K→Value} {ev:V→Value}
def YL (ek:K→Value) (ev:V→Value) (w:World) (r b:Nat) (l left:List (K × V)) (cur:Option (K × V)):Prop :=
 (l.map (·.1)).Nodup∧∃ es clock seen,w.heap[b]?=some (.map es clock)∧w.heap[r]?=some (.mapIter (some b) clock seen clock) ∧
  es.toList.map (·.key)=l.map (fun p=>ek p.1)∧es.toList.map (·.val)=l.map (fun p=>ev p.2) ∧
  es.toList.Pairwise (fun x y=>x.born<y.born)∧(∀ e∈es.toList,e.born<clock) ∧
  ((es.toList.zip l).filter (fun x=>!seen.contains x.1.born)).map (·.2)=left ∧
  (∀ p,cur=some p→∃ e,(e,p)∈es.toList.zip l∧seen.back?=some e.born)
theorem YL.of_blocks {w w':World} {r b:Nat} {l left:List (K × V)} {cur:Option (K × V)} (h:YL ek ev w r b l left cur) (hr:w'.heap[r]?=w.heap[r]?) (hb:w'.heap[b]?=w.heap[b]?):YL ek ev w' r b l left cur:=by
 obtain ⟨hn,es,clock,seen,h1,h2,h3⟩:=h
 exact ⟨hn,es,clock,seen,hb.trans h1,hr.trans h2,h3⟩
theorem YL.lt {w:World} {r b:Nat} {l left:List (K × V)} {cur:Option (K × V)} (h:YL ek ev w r b l left cur):r<w.heap.size∧b<w.heap.size:=by
 obtain ⟨hn,es,clock,seen,h1,h2,h3⟩:=h
 exact ⟨(Array.getElem?_eq_some_iff.1 h2).1,(Array.getElem?_eq_some_iff.1 h1).1⟩
theorem YL.ext {S:Nat→Prop} {w w':World} {r b:Nat} {l left:List (K × V)} {cur:Option (K × V)} (h:YL ek ev w r b l left cur) (hx:Ext S w w') (h1:¬ S r) (h2:¬ S b):YL ek ev w' r b l left cur :=
 h.of_blocks (hx.block r h.lt.1 h1) (hx.block b h.lt.2 h2)
theorem Z4O {es:List MapEntry} {l:List (K × V)} (h:es.map (·.key)=l.map (fun p=>ek p.1)):(es.zip l).map (·.2)=l:=by
 have:=congrArg List.length h
 simp only[List.length_map] at this
 rw[List.map_snd_zip]
 omega
theorem Zq.range {P:Program} {w:World} {b:Nat} {l:List (K × V)} {mt kt et:TypeId} (h:Zq ek ev w b l) (hm:P.underlying mt=some (.map kt et)) :
  ∃ w',(Instr.range mt (.map (some b))).run P w=.ok (.pointer (some ⟨w.heap.size,0,none⟩)) w'∧YL ek ev w' w.heap.size b l l none∧Below w.heap.size w w'∧w'.heap.size=w.heap.size+1:=by
 have hlt:=h.lt
 obtain ⟨hn,es,clock,h1,h2,h3,h4,h5⟩:=h
 refine ⟨w.alloc (.mapIter (some b) clock #[] clock),?_,⟨hn,es,clock,#[],?_,?_,h2,h3,h4,h5,?_,?_⟩,(Below.refl _ _).alloc (Nat.le_refl _) _,by simp⟩
 ·simp[Instr.range,run_underlying hm,Ym h1,Result.andThen]
 ·rw[Below.heap_alloc _ _ _ hlt];exact h1
 ·show (w.heap.push _)[w.heap.size]?=_
  simp
 ·rw[List.filter_eq_self.2 (by simp)]
  exact Z4O h2
 ·intro p hp;cases hp
theorem Z4i {es:List MapEntry} {l:List (K × V)} (h:es.map (·.key)=l.map (fun p=>ek p.1)):(es.zip l).map (·.1)=es:=by
 have:=congrArg List.length h
 simp only[List.length_map] at this
 rw[List.map_fst_zip]
 omega
theorem Z2V {es:List MapEntry} {l:List (K × V)} (hp:es.Pairwise (fun x y=>x.born<y.born)):(es.zip l).Pairwise (fun x y=>x.1.born<y.1.born):=by
 induction es generalizing l with
 | nil=>simp
 | cons e es ih =>
  cases l with
  | nil=>simp
  | cons q l =>
   rw[List.zip_cons_cons]
   rw[List.pairwise_cons] at hp ⊢
   refine ⟨fun y hy=>hp.1 y.1 (List.of_mem_zip hy).1,ih hp.2⟩
theorem YL.next1 {P:Program} {w:World} {r b:Nat} {l left:List (K × V)} {cur:Option (K × V)} {ty:TypeId} (h:YL ek ev w r b l left cur) (hrb:r≠b) :
  (left=[]∧(Instr.next (.pointer (some ⟨r,0,none⟩)) false ty).run P w=.ok (.tuple #[.bool false]) w) ∨
  ∃ i p w',left[i]?=some p∧(Instr.next (.pointer (some ⟨r,0,none⟩)) false ty).run P w=.ok (.tuple #[.bool true,ek p.1,ev p.2]) w'∧YL ek ev w' r b l (left.eraseIdx i) (some p)∧Ext (·=r) w w'∧w'.heap.size=w.heap.size:=by
 have hlt:=h.lt
 obtain ⟨hn,es,clock,seen,h1,h2,h3,h4,h5,h6,h7,h8⟩:=h
 have hz:=Z4i h3
 have hgr:(getObj r).run P w=.ok (.mapIter (some b) clock seen clock) w:=by simp[getObj,Sem.run,h2]
 have hgb:(getObj b).run P w=.ok (.map es clock) w:=Ym h1
 have hold:(es.filter fun e=>!seen.contains e.born).filter (fun e=>decide (e.born<clock))=es.filter fun e=>!seen.contains e.born:=by
  rw[Array.filter_eq_self]
  intro e he
  simp only[decide_eq_true_eq]
  exact h6 e (by simpa using (Array.mem_filter.1 he).1)
 have hnew:(es.filter fun e=>!seen.contains e.born).filter (fun e=>decide (e.born≥clock))=#[]:=by
  rw[Array.filter_eq_empty_iff]
  intro e he
  simp only[decide_eq_true_eq]
  have:=h6 e (by simpa using (Array.mem_filter.1 he).1)
  omega
 have hall:(!seen.isEmpty && !es.isEmpty && es.all fun e=>decide (e.born≥clock))=false:=by
  cases hes:es.isEmpty with
  | true=>simp
  | false =>
   simp only[Bool.not_false,Bool.and_true]
   rw[Bool.and_eq_false_iff]
   right
   have h0:0<es.size:=by
    rw[Array.isEmpty_eq_false_iff] at hes
    exact Array.size_pos_iff.2 hes
   have:=h6 es[0] (by simp)
   cases hq:es.all fun e=>decide (e.born≥clock) with
   | false=>rfl
   | true =>
    rw[Array.all_eq_true] at hq
    have:=hq 0 h0
    simp at this
    omega
 have hleft:left.map (fun p=>p)=left:=List.map_id' _
 generalize hF:(es.toList.zip l).filter (fun x=>!seen.contains x.1.born)=F at h7
 have hFes:(es.filter fun e=>!seen.contains e.born).toList=F.map (·.1):=by
  rw[Array.toList_filter,←hF]
  conv=>lhs;rw[←hz]
  rw[List.filter_map]
  rfl
 by_cases hemp:left=[]
 ·left
  refine ⟨hemp,?_⟩
  have hFnil:F=[]:=by rw[hemp] at h7;exact List.map_eq_nil_iff.1 h7
  have he:es.filter (fun e=>!seen.contains e.born)=#[]:=by
   apply Array.toList_inj.1
   rw[hFes,hFnil]
   rfl
  simp only[Instr.next,Sem.run_bind,hgr,Result.andThen_ok,hgb,hall,Bool.false_eq_true,if_false,Sem.run_pure]
  rw[hold,hnew,he]
  simp[Question.forced]
 ·right
  have hne:F≠[]:=fun e=>hemp (by rw[←h7,e];rfl)
  have hpos:0<F.length:=List.length_pos_iff.2 hne
  have hemp2:(es.filter fun e=>!seen.contains e.born).isEmpty=false:=by
   rw[Array.isEmpty_eq_false_iff]
   intro e
   have:=congrArg Array.toList e
   rw[hFes] at this
   exact hne (List.map_eq_nil_iff.1 this)
  have key:∀ i (hi:i<F.length) (w0:World),w0.heap=w.heap→w0.os=w.os→w0.tape=w.tape→w0.output=w.output →
    ∃ p w',left[i]?=some p∧(do setObj r (.mapIter (some b) clock (seen.push (F[i]'hi).1.born) clock);pure (Value.tuple #[.bool true,(F[i]'hi).1.key,(F[i]'hi).1.val]):Sem Value).run P w0=.ok (.tuple #[.bool true,ek p.1,ev p.2]) w'∧YL ek ev w' r b l (left.eraseIdx i) (some p)∧Ext (·=r) w w'∧w'.heap.size=w.heap.size:=by
   intro i hi w0 g1 g2 g3 g4
   obtain ⟨e,p,hep⟩:∃ e p,F[i]'hi=(e,p):=⟨_,_,rfl⟩
   rw[hep]
   have hmem:(e,p)∈es.toList.zip l:=by
    have:(e,p)∈F:=by rw[←hep];exact List.getElem_mem hi
    rw[←hF] at this
    exact (List.mem_filter.1 this).1
   obtain ⟨q,hq⟩:=List.getElem?_of_mem hmem
   rw[List.getElem?_zip_eq_some] at hq
   have hk:e.key=ek p.1:=by
    have:=congrArg (fun l:List Value=>l[q]?) h3
    simpa [hq.1,hq.2] using this
   have hv:e.val=ev p.2:=by
    have:=congrArg (fun l:List Value=>l[q]?) h4
    simpa [hq.1,hq.2] using this
   have hFi:F[i]?=some (e,p):=by rw[List.getElem?_eq_getElem hi,hep]
   have hr0:w0.heap[r]?=some (.mapIter (some b) clock seen clock):=by rw[g1];exact h2
   refine ⟨p,{ w0 with heap:=w0.heap.setIfInBounds r (.mapIter (some b) clock (seen.push e.born) clock) },?_,?_,?_,⟨g2,g3,g4,by simp[g1],fun k hk' hkr=>?_⟩,by simp[g1]⟩
   ·rw[←h7,List.getElem?_map,hFi];rfl
   ·have:(setObj r (.mapIter (some b) clock (seen.push e.born) clock)).run P w0=.ok () { w0 with heap:=w0.heap.setIfInBounds r (.mapIter (some b) clock (seen.push e.born) clock) }:=by simp[setObj,Sem.run,hr0]
    simp only[Sem.run_bind,this,Result.andThen_ok,Sem.run_pure,hk,hv]
   ·refine ⟨hn,es,clock,seen.push e.born,?_,?_,h3,h4,h5,h6,?_,?_⟩
    ·show (w0.heap.setIfInBounds r _)[b]?=_
     rw[Array.getElem?_setIfInBounds_ne hrb,g1];exact h1
    ·show (w0.heap.setIfInBounds r _)[r]?=_
     rw[Array.getElem?_setIfInBounds_self_of_lt (by rw[g1];exact hlt.1)]
    ·have e1:(es.toList.zip l).filter (fun x=>!(seen.push e.born).contains x.1.born)=F.filter (fun x=>!(x.1.born == e.born)):=by
      rw[←hF,List.filter_filter]
      refine List.filter_congr fun x _=>?_
      simp only[Array.contains_push,Bool.not_or]
      rw[Bool.and_comm]
     have hpw:F.Pairwise (fun x y=>x.1.born<y.1.born):=by rw[←hF];exact (Z2V h5).filter _
     rw[e1,ChangeMaps.filter_eq_eraseIdx (fun x:MapEntry × (K × V)=>x.1.born == e.born) F i (e,p) hFi (by simp) (hpw.imp (fun {x y} hxy ⟨a,c⟩=>by simp at a c;omega)),ChangeMaps.map_eraseIdx,h7]
    ·intro p' hp'
     cases hp'
     exact ⟨e,hmem,by simp⟩
   ·show (w0.heap.setIfInBounds r _)[k]?=_
    rw[Array.getElem?_setIfInBounds_ne (fun e=>hkr e.symm),g1]
  have hsz:((es.filter fun (e:MapEntry)=>!seen.contains e.born).map some).size=F.length:=by
   have:=congrArg List.length hFes
   rw[Array.size_map]
   rw[←Array.length_toList,hFes,List.length_map]
  have hget:∀ i (hi:i<F.length),((es.filter fun (e:MapEntry)=>!seen.contains e.born).map some)[i]?=some (some (F[i]'hi).1):=by
   intro i hi
   rw[Array.getElem?_map,←Array.getElem?_toList,hFes,List.getElem?_map,List.getElem?_eq_getElem hi]
   rfl
  have hrun:∀ i (hi:i<F.length) w0,(choose (.mapNext F.length)).run P w=.ok i w0→(Instr.next (.pointer (some ⟨r,0,none⟩)) false ty).run P w =
    (do setObj r (.mapIter (some b) clock (seen.push (F[i]'hi).1.born) clock);pure (Value.tuple #[.bool true,(F[i]'hi).1.key,(F[i]'hi).1.val]):Sem Value).run P w0:=by
   intro i hi w0 hc
   simp only[Instr.next,Sem.run_bind,hgr,Result.andThen_ok,hgb,hall,Bool.false_eq_true,if_false,Sem.run_pure]
   rw[hold,hnew,hemp2]
   simp only[Bool.false_eq_true,if_false,Array.empty_append,Array.append_empty]
   rw[hsz,hc,Result.andThen_ok,hget i hi]
   simp only[Sem.run_bind,Sem.run_pure]
  by_cases hforced:F.length≤1
  ·obtain ⟨p,w',k1,k2,k3⟩:=key 0 hpos w rfl rfl rfl rfl
   refine ⟨0,p,w',k1,?_,k3⟩
   rw[←k2]
   exact hrun 0 hpos w (by rw[run_choose_drew,if_pos (by simp[Question.forced,hforced])])
  ·obtain ⟨p,w',k1,k2,k3⟩:=key (w.tape w.drawn (.mapNext F.length) % F.length) (Nat.mod_lt _ hpos) w.drew rfl rfl rfl rfl
   refine ⟨_,p,w',k1,?_,k3⟩
   rw[←k2]
   exact hrun _ (Nat.mod_lt _ hpos) w.drew (by rw[run_choose_drew,if_neg (by simp[Question.forced];omega)];rfl)
theorem YL.next {P:Program} {w:World} {r b:Nat} {l left:List (K × V)} {cur:Option (K × V)} (h:YL ek ev w r b l left cur) (hrb:r≠b) :
  (left=[]∧∀ ty,(Instr.next (.pointer (some ⟨r,0,none⟩)) false ty).run P w=.ok (.tuple #[.bool false]) w) ∨
  ∃ i p w',left[i]?=some p∧(∀ ty,(Instr.next (.pointer (some ⟨r,0,none⟩)) false ty).run P w=.ok (.tuple #[.bool true,ek p.1,ev p.2]) w')∧YL ek ev w' r b l (left.eraseIdx i) (some p)∧Ext (·=r) w w'∧w'.heap.size=w.heap.size:=by
 rcases h.next1 (P:=P) (ty:=0) hrb with ⟨h1,h2⟩|⟨i,p,w',h1,h2,h3⟩
 ·exact .inl ⟨h1,fun _=>h2⟩
 ·exact .inr ⟨i,p,w',h1,fun _=>h2,h3⟩
theorem YL.entry {P:Program} {w:World} {r b:Nat} {l left:List (K × V)} {p:K × V} (h:YL ek ev w r b l left (some p)) :
  (Instr.entry (.pointer (some ⟨r,0,none⟩))).run P w=.ok (.tuple #[ek p.1,ev p.2]) w:=by
 obtain ⟨hn,es,clock,seen,h1,h2,h3,h4,h5,h6,h7,h8⟩:=h
 obtain ⟨e,hmem,hback⟩:=h8 p rfl
 obtain ⟨q,hq⟩:=List.getElem?_of_mem hmem
 rw[List.getElem?_zip_eq_some] at hq
 have hk:e.key=ek p.1:=by
  have:=congrArg (fun l:List Value=>l[q]?) h3
  simpa [hq.1,hq.2] using this
 have hv:e.val=ev p.2:=by
  have:=congrArg (fun l:List Value=>l[q]?) h4
  simpa [hq.1,hq.2] using this
 have hgr:(getObj r).run P w=.ok (.mapIter (some b) clock seen clock) w:=by simp[getObj,Sem.run,h2]
 have hgb:(getObj b).run P w=.ok (.map es clock) w:=Ym h1
 have hfind:es.find? (fun x=>x.born == e.born)=some e:=by
  rw[←Array.find?_toList]
  rw[List.find?_eq_some_iff_getElem]
  obtain ⟨hq',hqe⟩:=List.getElem?_eq_some_iff.1 hq.1
  refine ⟨by simp,q,hq',hqe,fun j hj=>?_⟩
  have hj':j<es.toList.length:=by omega
  have:=List.pairwise_iff_getElem.1 h5 j q hj' hq' hj
  rw[hqe] at this
  simp
  simp at this
  omega
 simp[Instr.entry,hgr,hgb,hback,hfind,hk,hv,Result.andThen]
end
end Go.Proofs.YtgmdimbiipemhaaGreatDoor
namespace Go.Proofs.YtgmdimbiipemhaaGreatDoor
open Go.RowKit Go.Deep
theorem Z2M {safe at_:Int} {n:ByteArray} {g:Nat}:∀ {cs:List Chg} {op:Nat} {m:List (ByteArray × Nat)},(n,g)∈Wd safe at_ cs op m→(n,g)∈m∨∃ c∈cs,n=c.name∧c.f=some g
 | [],_,_,h=>.inl h
 | c :: cs,op,m,h=>by
  unfold Wd at h
  have key:∀ {op'},(n,g)∈Wd safe at_ cs op' (ZU c m)→(n,g)∈m∨∃ c'∈c :: cs,n=c'.name∧c'.f=some g:=fun h=>by
   rcases Z2M h with h|⟨c',h1,h2⟩
   ·rcases Z0e h with h|h
    ·exact .inl h
    ·exact .inr ⟨c,List.mem_cons_self,h⟩
   ·exact .inr ⟨c',List.mem_cons_of_mem _ h1,h2⟩
  split at h
  ·split at h
   ·exact .inl h
   ·exact key h
  ·exact key h
theorem Z4j {A:Z4} (h:A.Ok) {at_ names:Int} {n:ByteArray} {f:Nat} (hm:(n,f)∈YU A at_ names):f∈A.ids∧n.size≤8:=by
 unfold YU at hm
 rcases Z2M hm with hm|⟨c,hc,rfl,hf⟩
 ·exact h.inb n f hm
 ·exact h.inc c hc f hf
theorem Own.single {α:Type} {ea:α→List Value} {k:Nat} {e:TypeId} {base g:Nat} {w:World} {x:α} (hk:∀ x,(ea x).length=k) (hb:w.heap[g]?=some (.cells (ea x).toArray e (0,0))) (hg:base≤g):Own ea k e base w (.slice (some ⟨g,0,none⟩) 1 1) [x]:=by
 refine ⟨by simp[hk],.inr ⟨g,1,(ea x).toArray,rfl,hg,hb,Nat.le_refl _,by unfold maxLen;omega,by simp[hk],?_⟩⟩
 simp[hk]
 rw[List.take_of_length_le (by rw[hk];exact Nat.le_refl _)]
theorem Sb {K V:Type} [DecidableEq K] {ek:K→Value} {ev:V→Value} {K2 V2:Type} [DecidableEq K2] {ek2:K2→Value} {ev2:V2→Value} {w:World} {r b b2:Nat} {l left:List (K × V)} {cur:Option (K × V)} {l2:List (K2 × V2)} (h:YL ek ev w r b l left cur) (k:Zq ek2 ev2 w b2 l2):r≠b2:=by
 rintro rfl
 obtain ⟨hn,es,clock,seen,h1,h2,_⟩:=h
 obtain ⟨_,es2,cl2,h3,_⟩:=k
 rw[h2] at h3
 cases h3
theorem Z6C {K V:Type} [DecidableEq K] {ek:K→Value} {ev:V→Value} {w:World} {r b:Nat} {l left:List (K × V)} {cur:Option (K × V)} (h:YL ek ev w r b l left cur):Ys w r=none:=by
 obtain ⟨hn,es,clock,seen,h1,h2,_⟩:=h
 simp[Ys,h2]
theorem Z4n {α:Type} {l:List α} {i:Nat} {x:α} (h:l[i]?=some x):l.Perm (x :: l.eraseIdx i):=by
 induction l generalizing i with
 | nil=>simp at h
 | cons y l ih =>
  cases i with
  | zero=>simp at h;subst h;simp
  | succ i =>
   simp at h
   exact (List.Perm.cons y (ih h)).trans (List.Perm.swap x y _)
theorem Zb.iter {base:Nat} {w w':World} {D:DSh} {A:Z4} (h:Zb base w D A) {r:Nat} (hx:Ext (·=r) w w') (ht:Ys w r=none) (h1:r≠D.mf) (h2:r≠D.mb):Zb base w' D A :=
 h.ext hx (fun b hb e=>by
  subst e
  rcases hb with e|e|e|e|e|⟨f,hf,e|e⟩
  ·rw[e,h.tpb] at ht;cases ht
  ·exact h1 e
  ·exact h2 e
  ·rw[Zk h.ochg e] at ht;cases ht
  ·rw[Zk h.osyn e] at ht;cases ht
  ·rw[e,(h.file f hf).tag] at ht;cases ht
  ·rw[((h.file f hf).row e).1] at ht;cases ht) (fun b _ hu e=>by rw[e,ht] at hu;cases hu)
theorem Z6e (at_:Int) (ks:List Bool) (torn:Int) (ps:List PcA):(XG at_ ks torn ps).length≤ZB ps:=by
 have h:=Z30 at_ torn ks ps ps.length
 rw[List.take_length] at h
 unfold XG
 rw[List.length_take]
 omega
def RB (w:World) (A:Z4) (at_ names:Int) (ks:List Bool) (torn:Int) (e:Ending) (w':World):Prop :=
 ∃ D' A',e=.returned (.pointer (some ⟨D'.pb,0,none⟩))∧Zb w.heap.size w' D' A'∧A'.files=A'.base∧SG A (YU A (X5 at_ (A.now+1).toNat) names) (X5 at_ (A.now+1).toNat) ks torn A'∧Below w.heap.size w w'
structure Z2s (base:Nat) (w:World) (D:DSh) (A:Z4) (D0:DSh) (it m:Nat) (l:List (ByteArray × Nat)) (at_:Int) (ks:List Bool) (torn:Int) (wr:World) (left dn:List (ByteArray × Nat)) (cur:Option (ByteArray × Nat)) (D':DSh) (A':Z4):Prop where
 perm:(dn++left).Perm l
 iter:YL Value.string YX wr it m l left cur
 new:Zb w.heap.size wr D' A'
 cut:SG A dn at_ ks torn A'
 fil:A'.files=[]
 pb:D'.pb=D0.pb
 mf:D'.mf=D0.mf
 mb:D'.mb=D0.mb
 old:Zb base wr D A
 frame:Below w.heap.size w wr
theorem Z41 {base:Nat} {w:World} {D:DSh} {A:Z4} (h:Zb base w D A) (hbw:base≤w.heap.size) (at_ names torn:Int) (ks:List Bool) (vk:Value) (hk:Z0 Z7j 1 w vk ks) (ha1:-9223372036854775808≤at_) (ha2:at_≤9223372036854775807) (hn1:-9223372036854775808≤names) (hn2:names≤9223372036854775807) (ht1:-9223372036854775808≤torn) (ht2:torn≤9223372036854775807)
  {N:Nat} (hsm:A.Small N) (hN:N≤100000) :
  Calls Tryz.prog 36 #[.pointer (some ⟨D.pb,0,none⟩),.int .i64 at_,.int .i64 names,vk,.int .i64 torn] w fun e w'=>RB w A at_ names ks torn e w':=by
 obtain ⟨nn,hnn⟩:∃ nn:Nat,A.now=nn:=⟨A.now.toNat,by have:=hsm.now0;omega⟩
 have hnN:nn≤100000:=by have:=hsm.now;omega
 have c4:=Joins.cell_of_block h.blk 4
 simp only[List.getElem?_toArray,List.getElem?_cons_succ,List.getElem?_cons_zero,hnn] at c4
 have hpk:=Q5 at_ (nn+1) ha1 ha2 (by omega) (by omega)
 obtain ⟨pa,hpa⟩:=Je (X5 at_ (nn+1))
 rw[hpa] at hpk
 have hpae:X5 at_ (A.now+1).toNat=pa:=by rw[←hpa];congr 1;omega
 have HPA:=Lib.hid hpae
 have HPK:=Lib.hid hpk
 obtain ⟨ka,kc,rfl,_⟩:=id hk
 have HK:=Lib.hid hk
 have HH:=Lib.hid h
 have HNN:=Lib.hid hnn
 clear hpk hpa hpae h hk hnn
 go_enter Tryz.func36,Tryz.ntmps36
 go_wp2_with fail
 refine (HPK.out _).mono ?_
 rintro e w1 ⟨rfl,e1⟩
 have e1':=e1.symm
 subst e1'
 go_wp2_with fail
 refine (Z0Z (base:=w.heap.size) w (Nat.le_refl _)).mono ?_
 rintro e w2 ⟨D0,rfl,hD2,b2,_⟩
 have HD2:=Lib.hid hD2
 have HB2:=Lib.hid b2
 clear hD2 b2
 go_wp2_with fail
 refine (Z3R (HH.out.below HB2.out) pa names hn1 hn2 hsm (by omega)).mono ?_
 rintro e w3 ⟨m,rfl,hm3,hmap,b3⟩
 obtain ⟨l,hl⟩:=Je (YU A pa names)
 rw[hl] at hmap
 have HLE:=Lib.hid hl
 obtain ⟨w4,hrange,hit,hb4,hz4⟩:=hmap.range (P:=Tryz.prog) Wt
 have hm0:D0.mb<m:=by have:=HD2.out.lmb;omega
 have hmf0:D0.mf<m:=by have:=HD2.out.lmf;omega
 have hrel:Z2s base w D A D0 w3.heap.size m l pa ks torn w4 l [] none D0 Xa:={
  perm:=List.Perm.refl _
  iter:=hit
  new:=(HD2.out.below b3).below hb4
  cut:=Z8b A _ _ _
  fil:=rfl
  pb:=rfl
  mf:=rfl
  mb:=rfl
  old:=((HH.out.below HB2.out).below b3).below hb4
  frame:=(HB2.out.trans (b3.mono HB2.out.size)).trans (hb4.mono (Nat.le_trans HB2.out.size b3.size)) }
 have hmit:m<w3.heap.size:=hmap.lt
 have hw2:w.heap.size≤w2.heap.size:=HB2.out.size
 have HREL:=Lib.hid hrel
 have HOK:Hid (∀ n f,(n,f)∈l→f∈A.ids∧n.size≤8):=Jh (fun n f hm=>Z4j HH.out.ok (by rw[HLE.out];exact hm))
 have HND:=Lib.hid hmap.nodup
 clear hrel hit hb4 hz4 hmap b3 hl
 go_wp2_with fail
 obtain ⟨it,hit⟩:=Je (w3.heap.size)
 rw[hit] at HREL hmit ⊢
 clear hrange hit
 go_loopg [14] l.length (fun g bv wr=>∃ left dn cur D' A',g=left.length∧Hid (Z2s base w D A D0 it m l pa ks torn wr left dn cur D' A'))
 case atStart=>exact ⟨l,[],none,D0,Xa,rfl,HREL⟩
 case round =>
  obtain ⟨left,dn,cur,D',A',hg,hR⟩:=hrel
  have HG:=Lib.hid hg
  clear hg
  rcases hR.out.iter.next (P:=Tryz.prog) (by omega) with ⟨hnil,hnx⟩|⟨i,p,w5,hip,hnx,hiter2,hx5,hs5⟩
  ·have hb:=hR.out.new.blk
   rw[hR.out.pb] at hb
   have d1:=Joins.cell_of_block hb 1
   have d0:=Joins.unfrozen_of_block hb 0
   simp only[List.getElem?_toArray,List.getElem?_cons_succ,List.getElem?_cons_zero] at d1
   have hcl:=QZ hR.out.new.mbase
   have HCL:=Lib.hid hcl
   have HNIL:=Lib.hid hnil
   have hlp:D0.pb<wr.heap.size:=by have:=hR.out.new.lpb;rw[hR.out.pb] at this;exact this
   have d3:=Joins.cell_of_block hb 0
   simp only[List.getElem?_toArray,List.getElem?_cons_succ,List.getElem?_cons_zero] at d3
   clear hcl hb hnil
   go_wp2_with fail
   refine HCL.out.mono ?_
   rintro e w6 ⟨rfl,hm6,b6⟩
   have h6:=hR.out.new.below b6
   have h7:=h6.reMap hm6 hR.out.frame.size (by have:=hR.out.new.lmb;omega) hR.out.new.ok.inb
   rw[hR.out.pb] at h7
   have hpost:RB w A at_ names ks torn (.returned (.pointer (some ⟨D0.pb,0,none⟩))) (w6.setCell ⟨D0.pb,0,none⟩ (.map (some wr.heap.size))):=by
    refine ⟨{ pb:=D0.pb,mf:=wr.heap.size,mb:=D'.mb,vc:=D'.vc,vs:=D'.vs,rv:=D'.rv },{ A' with files:=A'.base },rfl,h7,rfl,?_,?_⟩
    ·have hc:=hR.out.cut
     have hpm:=hR.out.perm
     rw[HNIL.out,List.append_nil] at hpm
     rw[HPA.out,HLE.out]
     exact ⟨hc.chg,hc.syn,hc.now,hc.perm.trans (hpm.map _),fun n f hm=>hc.has n f (hpm.symm.subset hm),hc.vals,hc.one,hc.ln,hc.pc⟩
    ·refine Ext.new (hR.out.frame.trans (b6.mono hR.out.frame.size)) (YO _ _ _ _) (fun i hi _ e=>?_) (Nat.le_trans hR.out.frame.size b6.size)
     have:=hR.out.new.lo
     rw[hR.out.pb] at this
     omega
   have e6:=ZH b6 d3
   have g6:=(Ext.of_below (S:=fun _=>False) b6).frozen (p:=⟨D0.pb,0,none⟩) hlp (fun e=>e)
   rw[d0] at g6
   have HP:=Lib.hid hpost
   clear hm6 b6 h6 h7 hpost
   go_wp2
   go_ret
   exact HP.out
  ·obtain ⟨n,f⟩:=p
   have hen:∀ W,YL Value.string YX W it m l (left.eraseIdx i) (some (n,f))→(Instr.entry (.pointer (some ⟨it,0,none⟩))).run Tryz.prog W=.ok (.tuple #[.string n,.pointer (some ⟨f,0,none⟩)]) W:=fun W hW=>hW.entry
   simp only[YX] at hnx
   have hpl:(n,f)∈l:=hR.out.perm.subset (List.mem_append_right _ (List.mem_of_getElem? hip))
   have hit0:=Z6C hR.out.iter
   have hold5:=hR.out.old.iter hx5 hit0 (Sb hR.out.iter hR.out.old.mfiles) (Sb hR.out.iter hR.out.old.mbase)
   have hnew5:=hR.out.new.iter hx5 hit0 (Sb hR.out.iter hR.out.new.mfiles) (Sb hR.out.iter hR.out.new.mbase)
   have hfr5:Below w.heap.size w w5:=Ext.new hR.out.frame hx5 (fun j hj _ e=>by omega) hR.out.frame.size
   have hfi:=(HOK.out n f hpl).1
   have hleft:=Z65 (hold5.file f hfi) pa ks torn (HK.out.below hfr5) ht1 ht2 (hold5.ok.sz f hfi) (by have:=hsm.pcs f hfi;omega)
   have HLEFT:=Lib.hid hleft
   have HPL:=Lib.hid hpl
   have HOLD:=Lib.hid hold5
   have HNEW:=Lib.hid hnew5
   have HFR:=Lib.hid hfr5
   have HIP:=Lib.hid hip
   have HI2:=Lib.hid hiter2
   have hen2:=hen w5 hiter2
   clear hleft hpl hold5 hnew5 hfr5 hip hiter2 hx5 hen hfi hit0
   go_wp2_with fail
   refine HLEFT.out.mono ?_
   rintro e w6 ⟨v6,rfl,own6,b6⟩
   obtain ⟨⟨sa,sn,sc⟩,e6⟩:=own6.slv
   change v6=.slice sa sn sc at e6
   subst e6
   obtain ⟨esn⟩:sn=(XG pa ks torn (A.fs f)).length:=by
    obtain ⟨_,_,e,_⟩:=own6.slice Z6
    simp only[Value.slice.injEq] at e
    exact e.2.1
   obtain ⟨bs,hbs⟩:=Je (XG pa ks torn (A.fs f))
   rw[hbs] at own6 ⊢
   have hlb:bs.length≤1048576:=by
    rw[←hbs]
    exact Nat.le_trans (Z6e _ _ _ _) (HOLD.out.ok.sz f (HOK.out n f HPL.out).1)
   have h6:=HNEW.out.below b6
   have hBc:Below w6.heap.size w6 ((w6.alloc (.cells #[.slice sa bs.length sc,.int .i64 0,.int .i64 (-1)] 131)).alloc (.cells #[.slice (some ⟨w6.heap.size,0,none⟩) 1 1,.int .i64 bs.length] 124)):=((Below.refl _ _).alloc (Nat.le_refl _) _).alloc (by simp) _
   have hfr6:Below w.heap.size w w6:=HFR.out.trans (b6.mono HFR.out.size)
   have hp1:(w6.alloc (.cells #[.slice sa bs.length sc,.int .i64 0,.int .i64 (-1)] 131)).heap[w6.heap.size]?=some (.cells #[.slice sa bs.length sc,.int .i64 0,.int .i64 (-1)] 131 (0,0)):=(MapKept.heap_alloc w6 _).1
   have hfile:XF w.heap.size ((w6.alloc (.cells #[.slice sa bs.length sc,.int .i64 0,.int .i64 (-1)] 131)).alloc (.cells #[.slice (some ⟨w6.heap.size,0,none⟩) 1 1,.int .i64 bs.length] 124)) (w6.heap.size+1) (.slice (some ⟨w6.heap.size,0,none⟩) 1 1) [⟨bs,0,-1⟩]:=by
    refine ⟨by have:=hfr6.size;omega,?_,[⟨⟨sa,bs.length,sc⟩,0,-1⟩],Own.single Pc.len ?_ hfr6.size,rfl,fun i q p hq hp=>?_⟩
    ·have:=(MapKept.heap_alloc (w6.alloc (.cells #[.slice sa bs.length sc,.int .i64 0,.int .i64 (-1)] 131)) (.cells #[.slice (some ⟨w6.heap.size,0,none⟩) 1 1,.int .i64 bs.length] 124)).1
     rw[World.size_alloc] at this
     simpa [ZB] using this
    ·rw[Below.heap_alloc _ _ _ (by simp)]
     exact hp1
    ·have hi0:i=0:=by
      have:=(List.getElem?_eq_some_iff.1 hq).1
      simpa using this
     subst hi0
     simp at hq hp
     subst hq hp
     exact ⟨(own6.ext (Ext.of_below (S:=fun _=>False) hBc) (fun _ _=>id)).mono HFR.out.size,rfl,rfl⟩
   have h8:=h6.bornFull hBc hfile (by omega) (fun b hb=>by have:w6.heap.size=b:=Option.some.inj hb;omega) (by simpa [ZB] using hlb)
   have hup:=h8.mbase.update (P:=Tryz.prog) Vc Wt n (YX (w6.heap.size+1))
   have h9:=h8.bases (VJ _ _ (Yb A'.base n) (.string n) (YX (w6.heap.size+1))) (h8.mbase.put n (w6.heap.size+1)) (fun k g hk=>by
    have hsub:(k,g)∈A'.base∨(k=n∧g=w6.heap.size+1):=by
     cases hi:Yb A'.base n with
     | none =>
      rw[Uo hi] at hk
      rcases List.mem_append.1 hk with hk|hk
      ·exact .inl hk
      ·simp at hk;exact .inr hk
     | some j =>
      rw[Tt hi] at hk
      rcases List.mem_or_eq_of_mem_set hk with hk|hk
      ·exact .inl hk
      ·cases hk;exact .inr ⟨rfl,rfl⟩
    rcases hsub with hk|⟨rfl,rfl⟩
    ·exact ⟨List.mem_cons_of_mem _ (h6.ok.inb k g hk).1,(h6.ok.inb k g hk).2⟩
    ·exact ⟨List.mem_cons_self,(HOK.out k f HPL.out).2⟩)
   have hbk:=h6.blk
   rw[hR.out.pb] at hbk
   have d1:=Joins.cell_of_block hbk 1
   simp only[List.getElem?_toArray,List.getElem?_cons_succ,List.getElem?_cons_zero] at d1
   have hperm:=hR.out.perm
   have hnd:((dn++left).map (·.1)).Nodup:=(hperm.map (·.1)).nodup_iff.2 HND.out
   have hni:n∉dn.map (·.1):=fun e=>by
    rw[List.map_append,List.nodup_append] at hnd
    exact hnd.2.2 n e n (List.mem_map.2 ⟨(n,f),List.mem_of_getElem? HIP.out,rfl⟩) rfl
   have hfbn:w6.heap.size+1∉A'.ids:=fun e=>by have:=(h6.file _ e).lt;omega
   have hcut:=hR.out.cut.step (f:=f) hni hfbn
   rw[hbs] at hcut
   have hmb:D'.mb=D0.mb:=hR.out.mb
   have hmb1:w.heap.size≤D'.mb:=hR.out.new.lob
   obtain ⟨wc,hwc⟩:=Je ((w6.alloc (.cells #[.slice sa bs.length sc,.int .i64 0,.int .i64 (-1)] 131)).alloc (.cells #[.slice (some ⟨w6.heap.size,0,none⟩) 1 1,.int .i64 bs.length] 124))
   have hsz5:=b6.size
   have hsz6:=hBc.size
   have hit5:=HI2.out.lt
   have hiter:YL Value.string YX (YE wc D'.mb (Yb A'.base n) (.string n) (YX (w6.heap.size+1))) it m l (left.eraseIdx i) (some (n,f)):=by
    rw[←hwc]
    refine ((HI2.out.ext (Ext.of_below (S:=fun _=>False) b6) (fun e=>e) (fun e=>e)).ext (Ext.of_below (S:=fun _=>False) hBc) (fun e=>e) (fun e=>e)).ext (VJ _ _ _ _ _) (fun e=>?_) (fun e=>?_)
    ·exact Sb HI2.out HNEW.out.mbase e
    ·omega
   have hold:=((HOLD.out.below b6).below hBc).ext (VJ _ D'.mb (Yb A'.base n) (.string n) (YX (w6.heap.size+1))) (fun b hb e=>by
    have h0:Wn D A b:=hb
    have:=(HH.out.foot h0).2.1
    omega) (fun b _ hu e=>by
    rw[e,Xl h8.mbase] at hu
    cases hu)
   have hframe:=Ext.new (hfr6.trans (hBc.mono hfr6.size)) (VJ _ D'.mb (Yb A'.base n) (.string n) (YX (w6.heap.size+1))) (fun j hj _ e=>by omega) (Nat.le_trans hfr6.size hBc.size)
   rw[hwc] at h9 hold hframe hup
   have hrel2:Z2s base w D A D0 it m l pa ks torn (YE wc D'.mb (Yb A'.base n) (.string n) (YX (w6.heap.size+1))) (left.eraseIdx i) (dn++[(n,f)]) (some (n,f)) _ (U7 n (w6.heap.size+1) bs A'):={
    perm:=by
     rw[List.append_assoc]
     exact (List.Perm.append_left dn (Z4n HIP.out).symm).trans hperm
    iter:=hiter
    new:=h9
    cut:=hcut
    fil:=hR.out.fil
    pb:=hR.out.pb
    mf:=hR.out.mf
    mb:=hmb
    old:=hold
    frame:=hframe }
   have HREL2:=Lib.hid hrel2
   have hel:(left.eraseIdx i).length<gk:=by
    rw[HG.out,List.length_eraseIdx]
    have:=(List.getElem?_eq_some_iff.1 HIP.out).1
    rw[if_pos this]
    omega
   have HN4:=Lib.hid HNEW.out
   have hd1l:=Zu d1
   clear hmb h6 hBc hp1 hfile h8 h9 hbk hperm hnd hni hfbn hcut hiter hold hframe hrel2 own6 b6 hfr6
   have hup2:(Instr.mapUpdate 115 (.map (some D'.mb)) (.string n) (.pointer (some ⟨w6.heap.size+1,0,none⟩))).run Tryz.prog wc=.ok () (YE wc D'.mb (Yb A'.base n) (.string n) (YX (w6.heap.size+1))):=hup
   clear hup
   go_wp2_with fail
   go_roundg (left.eraseIdx i).length
   case measure=>exact hel
   case rel=>exact ⟨_,_,_,_,_,rfl,HREL2⟩
structure Z4.Hist (A:Z4):Prop where
 fold:A.files=A.chg.foldl (fun l c=>ZU c l) A.base
 at_:∀ c∈A.chg,c.at_≤A.now
 syn:∀ n∈A.syn,n≤A.now
 pcs:∀ f∈A.ids,∀ p∈A.fs f,p.came≤A.now∧p.safe≤A.now
theorem Z7g:Xa.Hist:=⟨rfl,fun c hc=>(by cases hc),fun c hc=>(by cases hc),fun c hc=>(by cases hc)⟩
theorem Z4.Hist.step {A:Z4} (h:A.Hist) (c:Chg):(Zz c A).Hist:=by
 refine ⟨?_,fun d hd=>?_,fun n hn=>?_,fun f hf p hp=>?_⟩
 ·simp only[Zz]
  rw[List.foldl_append,←h.fold]
  rfl
 ·simp only[Zz] at hd ⊢
  rcases List.mem_append.1 hd with hd|hd
  ·have:=h.at_ d hd;omega
  ·simp at hd;subst hd;simp
 ·have:=h.syn n hn;simp only[Zz];omega
 ·have:=h.pcs f hf p hp;simp only[Zz];omega
theorem Z7G {n m:Int} {p:PcA} (h:p.came≤n∧p.safe≤n) (hm:n≤m):(Ve m p).came≤m∧(Ve m p).safe≤m:=by
 unfold Ve
 split
 ·exact ⟨by dsimp only;omega,by dsimp only;omega⟩
 ·exact ⟨by omega,by omega⟩
theorem Z4.Hist.sync {A:Z4} (h:A.Hist) (f:Nat):(X4 f A).Hist:=by
 refine ⟨h.fold,fun d hd=>?_,fun n hn=>?_,fun g hg p hp=>?_⟩
 ·have:=h.at_ d hd;simp only[X4];omega
 ·have:=h.syn n hn;simp only[X4];omega
 ·simp only[X4] at hp ⊢
  split at hp
  ·rename_i e
   obtain ⟨q,hq,rfl⟩:=List.mem_map.1 hp
   rw[←e] at hq
   exact Z7G (h.pcs g hg q hq) (by omega)
  ·have:=h.pcs g hg p hp;omega
theorem Z4.Hist.syns {A:Z4} (h:A.Hist):(XO A).Hist:=by
 refine ⟨h.fold,fun d hd=>?_,fun n hn=>?_,fun g hg p hp=>?_⟩
 ·have:=h.at_ d hd;simp only[XO];omega
 ·simp only[XO] at hn ⊢
  rcases List.mem_append.1 hn with hn|hn
  ·have:=h.syn n hn;omega
  ·simp at hn;omega
 ·have:=h.pcs g hg p hp;simp only[XO];omega
theorem Z4.Hist.app {A:Z4} (h:A.Hist) (h0:0≤A.now) (f:Nat) (bs:List UInt8):(Yw f bs A).Hist:=by
 refine ⟨h.fold,fun d hd=>?_,fun n hn=>?_,fun g hg p hp=>?_⟩
 ·have:=h.at_ d hd;simp only[Yw];omega
 ·have:=h.syn n hn;simp only[Yw];omega
 ·simp only[Yw] at hp ⊢
  split at hp
  ·rename_i e
   rcases List.mem_append.1 hp with hp|hp
   ·rw[←e] at hp;have:=h.pcs g hg p hp;omega
   ·simp at hp;subst hp;exact ⟨by simp,by simp;omega⟩
  ·have:=h.pcs g hg p hp;omega
theorem Z4.Hist.born {A:Z4} (h:A.Hist) (fb:Nat):(ZQ fb A).Hist:=by
 refine ⟨h.fold,h.at_,h.syn,fun g hg p hp=>?_⟩
 simp only[ZQ] at hp hg ⊢
 split at hp
 ·cases hp
 ·rename_i e
  exact h.pcs g ((List.mem_cons.1 hg).resolve_left e) p hp
theorem Z3e {safe at_:Int}:∀ {cs:List Chg} {op:Nat} {m:List (ByteArray × Nat)},(∀ c∈cs,¬ safe<c.at_)→Wd safe at_ cs op m=cs.foldl (fun l c=>ZU c l) m
 | [],_,_,_=>rfl
 | c :: cs,op,m,h=>by
  unfold Wd
  rw[if_neg (h c List.mem_cons_self)]
  exact Z3e (fun d hd=>h d (List.mem_cons_of_mem _ hd))
theorem Z4u (syn:List Int) {n at_:Int} (h:n≤at_):XH (syn++[n]) at_=n:=by
 unfold XH
 rw[List.foldl_append]
 simp[h]
theorem Z7d {at_:Int} {ks:List Bool} {torn:Int} {ps:List PcA} (h:∀ p∈ps,p.came≤at_∧p.safe≤at_∧p.safe≠0):XG at_ ks torn ps=Zp ps:=by
 have key:∀ (ps:List PcA) (o:List UInt8) (n:Nat),(∀ p∈ps,p.came≤at_∧p.safe≤at_∧p.safe≠0)→ps.foldl (Zr at_ ks torn) ⟨o,o.length,n⟩=⟨o++Zp ps,(o++Zp ps).length,n⟩:=by
  intro ps
  induction ps with
  | nil=>intro o n _;simp[Zp]
  | cons p ps ih =>
   intro o n h
   obtain ⟨h1,h2,h3⟩:=h p List.mem_cons_self
   have e:Zr at_ ks torn ⟨o,o.length,n⟩ p=⟨o++p.bs,(o++p.bs).length,n⟩:=by
    unfold Zr
    rw[if_neg (by omega),if_pos ⟨h3,h2⟩]
   rw[List.foldl_cons,e,ih _ _ (fun q hq=>h q (List.mem_cons_of_mem _ hq))]
   simp[Zp,List.flatMap_cons]
 unfold XG XY
 rw[show (⟨[],0,0⟩:Vn)=⟨[],([]:List UInt8).length,0⟩ from rfl,key ps [] 0 h]
 simp
theorem Rf {n:Int} (h:0≤n):X5 n (n+1).toNat=n.toNat:=by
 unfold X5
 rw[if_neg (by omega),Int.toNat_of_nonneg (by omega),Int.emod_eq_of_lt h (by omega)]
theorem Z3j {a b:Int}:∀ (syn:List Int) (z:Int),(∀ n∈syn,n≤a∧n≤b)→syn.foldl (fun s n=>if n≤a then n else s) z=syn.foldl (fun s n=>if n≤b then n else s) z
 | [],_,_=>rfl
 | n :: syn,z,h=>by
  rw[List.foldl_cons,List.foldl_cons,if_pos (h n (by simp)).1,if_pos (h n (by simp)).2]
  exact Z3j syn n (fun m hm=>h m (by simp[hm]))
theorem Z76 {a b:Int} {syn:List Int} (h:∀ n∈syn,n≤a∧n≤b):XH syn a=XH syn b:=Z3j syn 0 h
theorem Z36 {a:Int}:∀ (syn:List Int) (z:Int),z≤a→syn.foldl (fun s n=>if n≤a then n else s) z≤a
 | [],_,h=>h
 | n :: syn,z,h=>by
  rw[List.foldl_cons]
  refine Z36 syn _ ?_
  split
  ·assumption
  ·exact h
theorem Z6Y {a:Int} (syn:List Int) (h:0≤a):XH syn a≤a:=Z36 syn 0 h
theorem Z1C {a:Int}:∀ (ss:List Int) (z:Int),(∀ n∈ss,a<n)→ss.foldl (fun s n=>if n≤a then n else s) z=z
 | [],_,_=>rfl
 | n :: ss,z,h=>by
  rw[List.foldl_cons,if_neg (by have:=h n (by simp);omega)]
  exact Z1C ss z (fun m hm=>h m (by simp[hm]))
theorem Z5O (cs ds:List Chg) (s a:Int):XR (cs++ds) s a=XR cs s a+XR ds s a:=by
 unfold XR
 rw[List.filter_append,List.length_append]
theorem Z6s {a b s:Int} {cs:List Chg} (h:∀ c∈cs,c.at_≤a∧c.at_≤b):XR cs s a=XR cs s b:=by
 unfold XR
 congr 1
 refine List.filter_congr (fun c hc=>?_)
 have:=h c hc
 rw[decide_eq_true this.1,decide_eq_true this.2]
theorem Z5H {a s:Int} {cs:List Chg} (h:∀ c∈cs,a<c.at_):XR cs s a=0:=by
 unfold XR
 rw[List.length_eq_zero_iff,List.filter_eq_nil_iff]
 intro c hc
 have:=h c hc
 simp
 omega
theorem Z0L {a b s:Int}:∀ {cs:List Chg} {op:Nat} {m:List (ByteArray × Nat)},(∀ c∈cs,c.at_≤a∧c.at_≤b)→Wd s a cs op m=Wd s b cs op m
 | [],_,_,_=>rfl
 | c :: cs,op,m,h=>by
  have h1:=h c (by simp)
  unfold Wd
  rw[Z0L (op:=op - 1) (fun d hd=>h d (by simp[hd])),Z0L (op:=op) (fun d hd=>h d (by simp[hd]))]
  have e1:(op=0∨a<c.at_)↔(op=0∨b<c.at_):=by constructor <;> intro h2 <;> rcases h2 with h2|h2 <;> omega
  simp only[e1]
def VB (A:Z4) (P:List (List (ByteArray × Nat))):Prop:=∀ nm,YU A A.now nm∈P
theorem VB.syn_ {A:Z4} (hh:A.Hist):VB (XO A) [A.files]:=by
 intro nm
 have hx:=hh.syns
 have hsf:XH (XO A).syn (XO A).now=(XO A).now:=Z4u A.syn (Int.le_refl _)
 unfold YU
 rw[hsf,Z3e (fun c hc=>by have:=hx.at_ c hc;omega)]
 exact List.mem_singleton.2 hx.fold.symm
theorem VB.now {A A':Z4} {P:List (List (ByteArray × Nat))} (h:VB A P) (hh:A.Hist) (h1:A'.chg=A.chg) (h2:A'.syn=A.syn) (h3:A'.base=A.base) (h4:A.now≤A'.now):VB A' P:=by
 intro nm
 have:=h nm
 unfold YU at this ⊢
 rw[h1,h2,h3,Z76 (b:=A.now) (fun n hn=>⟨by have:=hh.syn n hn;omega,hh.syn n hn⟩),Z6s (b:=A.now) (fun c hc=>⟨by have:=hh.at_ c hc;omega,hh.at_ c hc⟩),Z0L (b:=A.now) (fun c hc=>⟨by have:=hh.at_ c hc;omega,hh.at_ c hc⟩)]
 exact this
def VN (t:Int):List PcA→List PcA→Prop
 | [],qs=>∀ q∈qs,t<q.came
 | p :: ps,q :: qs=>(q.bs=p.bs∧q.came=p.came∧(q.safe=p.safe∨p.safe=0∧t<q.safe))∧VN t ps qs
 | _ :: _,[]=>False
theorem VN.refl (t:Int):∀ ps,VN t ps ps
 | []=>fun q hq=>(by cases hq)
 | _ :: ps=>⟨⟨rfl,rfl,.inl rfl⟩,VN.refl t ps⟩
theorem VN.left {t torn:Int} {ks:List Bool} {ps qs:List PcA} (h:VN t ps qs):XG t ks torn qs=XG t ks torn ps:=by
 have new:∀ (qs:List PcA) (s:Vn),(∀ q∈qs,t<q.came)→qs.foldl (Zr t ks torn) s=s:=by
  intro qs
  induction qs with
  | nil=>intro s _;rfl
  | cons q qs ih =>
   intro s h
   rw[List.foldl_cons]
   have e:Zr t ks torn s q=s:=by unfold Zr;rw[if_pos (h q (by simp))]
   rw[e]
   exact ih s (fun r hr=>h r (by simp[hr]))
 have key:∀ (ps qs:List PcA) (s:Vn),VN t ps qs→qs.foldl (Zr t ks torn) s=ps.foldl (Zr t ks torn) s:=by
  intro ps
  induction ps with
  | nil=>intro qs s h;exact new qs s h
  | cons p ps ih =>
   intro qs s h
   cases qs with
   | nil=>exact h.elim
   | cons q qs =>
    rw[List.foldl_cons,List.foldl_cons]
    have e:Zr t ks torn s q=Zr t ks torn s p:=by
     obtain ⟨h1,h2,h3⟩:=h.1
     unfold Zr
     rw[h1,h2]
     have e1:(q.safe≠0∧q.safe≤t)↔(p.safe≠0∧p.safe≤t):=by
      rcases h3 with h3|⟨h3,h4⟩
      ·rw[h3]
      ·constructor
       ·rintro ⟨_,h5⟩;omega
       ·rintro ⟨h5,_⟩;exact absurd h3 h5
     simp only[e1]
    rw[e]
    exact ih qs _ h.2
 unfold XG XY
 rw[key ps qs _ h]
structure UB (A B:Z4):Prop where
 base:B.base=A.base
 chg:∃ cs,B.chg=A.chg++cs∧∀ c∈cs,A.now<c.at_
 syn:∃ ss,B.syn=A.syn++ss∧∀ n∈ss,A.now<n
 now:A.now≤B.now
 ids:∀ f∈A.ids,f∈B.ids
 pcs:∀ f∈A.ids,VN A.now (A.fs f) (B.fs f)
theorem UB.refl (A:Z4):UB A A:=⟨rfl,⟨[],by simp,fun c hc=>(by cases hc)⟩,⟨[],by simp,fun c hc=>(by cases hc)⟩,Int.le_refl _,fun _ h=>h,fun f _=>VN.refl _ _⟩
theorem UB.names {A B:Z4} (h:UB A B) (hh:A.Hist) (h0:0≤A.now) (nm:Int):YU B A.now nm=YU A A.now nm:=by
 obtain ⟨cs,e1,hc⟩:=h.chg
 obtain ⟨ss,e2,hs⟩:=h.syn
 have hsf:XH B.syn A.now=XH A.syn A.now:=by
  rw[e2]
  unfold XH
  rw[List.foldl_append]
  exact Z1C ss _ hs
 have hle:=Z6Y A.syn h0
 unfold YU
 rw[hsf,h.base,e1,Z5O,Z5H hc,Nat.add_zero]
 have key:∀ (l:List Chg) (op:Nat) (m:List (ByteArray × Nat)),Wd (XH A.syn A.now) A.now (l++cs) op m=Wd (XH A.syn A.now) A.now l op m:=by
  intro l
  induction l with
  | nil =>
   intro op m
   cases cs with
   | nil=>rfl
   | cons c cs =>
    rw[List.nil_append]
    have:=hc c (by simp)
    unfold Wd
    rw[if_pos (by omega),if_pos (.inr this)]
  | cons c l ih =>
   intro op m
   rw[List.cons_append]
   conv=>lhs;unfold Wd
   conv=>rhs;unfold Wd
   rw[ih,ih]
 exact key _ _ _
theorem UB.left {A B:Z4} (h:UB A B) {f:Nat} (hf:f∈A.ids) (ks:List Bool) (torn:Int):XG A.now ks torn (B.fs f)=XG A.now ks torn (A.fs f):=(h.pcs f hf).left
theorem Z5C {b:List UInt8} (h:b[0]?=some 0):YM b=none:=by
 cases ht:YM b with
 | none=>rfl
 | some p =>
  obtain ⟨l,n⟩:=p
  obtain ⟨_,_,r,hr⟩:=Wg.1 ht
  rw[←hr] at h
  unfold Yt Xn at h
  simp at h
theorem Z5X {l:List OpD} (hl:Yo l) {n:Nat} (hn:n<(Yt l).length):YM ((Yt l).take n)=none:=by
 cases ht:YM ((Yt l).take n) with
 | none=>rfl
 | some p =>
  obtain ⟨m,k⟩:=p
  obtain ⟨hm,_,r,hr⟩:=Wg.1 ht
  have e:Yt l++[]=Yt m++(r++(Yt l).drop n):=by
   rw[List.append_nil,←List.append_assoc,hr,List.take_append_drop]
  obtain ⟨rfl,_⟩:=Z2I hl hm e
  have:=congrArg List.length hr
  rw[List.length_append,List.length_take] at this
  omega
structure XT (ps:List PcA) (ld lu:List (List OpD)):Prop where
 split:∃ ds us,ps=ds++us∧(∀ p∈ds,p.safe≠0)∧Zp ds=ZG ld∧us.map (·.bs)=lu.map Yt∧∀ p∈us,p.safe=0
 gd:∀ l∈ld,Yo l
 gu:∀ l∈lu,Yo l
theorem XT.bytes {ps:List PcA} {ld lu:List (List OpD)} (h:XT ps ld lu):Zp ps=ZG (ld++lu):=by
 obtain ⟨ds,us,rfl,_,h2,h3,_⟩:=h.split
 have e:∀ us:List PcA,Zp us=(us.map (·.bs)).flatten:=fun us=>by unfold Zp;rw[List.flatMap_def]
 have e2:Zp (ds++us)=Zp ds++Zp us:=by unfold Zp;rw[List.flatMap_append]
 rw[e2,h2,e us,h3,XN]
 congr 1
theorem XT.good {ps:List PcA} {ld lu:List (List OpD)} (h:XT ps ld lu):∀ l∈ld++lu,Yo l:=fun l hl=>by
 rcases List.mem_append.1 hl with hl|hl
 ·exact h.gd l hl
 ·exact h.gu l hl
theorem XT.app {ps:List PcA} {ld lu:List (List OpD)} (h:XT ps ld lu) {l:List OpD} (hl:Yo l) (n:Int):XT (ps++[⟨Yt l,n,0⟩]) ld (lu++[l]):=by
 obtain ⟨ds,us,rfl,h1,h2,h3,h4⟩:=h.split
 refine ⟨⟨ds,us++[⟨Yt l,n,0⟩],by rw[List.append_assoc],h1,h2,by simp[h3],fun p hp=>?_⟩,h.gd,fun m hm=>?_⟩
 ·rcases List.mem_append.1 hp with hp|hp
  ·exact h4 p hp
  ·rw[List.mem_singleton.1 hp]
 ·rcases List.mem_append.1 hm with hm|hm
  ·exact h.gu m hm
  ·rw[List.mem_singleton.1 hm];exact hl
theorem Z1g {n:Int} (hn:n≠0) (p:PcA):(Ve n p).safe≠0:=by
 unfold Ve
 split
 ·exact hn
 ·rename_i e;exact e
theorem XT.sync {ps:List PcA} {ld lu:List (List OpD)} (h:XT ps ld lu) {n:Int} (hn:n≠0):XT (ps.map (Ve n)) (ld++lu) [] :=
 ⟨⟨ps.map (Ve n),[],by simp,fun p hp=>by obtain ⟨q,_,rfl⟩:=List.mem_map.1 hp;exact Z1g hn q,by rw[QV,h.bytes],rfl,fun p hp=>(by cases hp)⟩,h.good,fun l hl=>(by cases hl)⟩
theorem XT.made {ls:List (List OpD)} (hg:∀ l∈ls,Yo l) {a n:Int} (hn:n≠0):XT [⟨ZG ls,a,n⟩] ls [] :=
 ⟨⟨[⟨ZG ls,a,n⟩],[],rfl,fun p hp=>by rw[List.mem_singleton.1 hp];exact hn,by simp[Zp],rfl,fun p hp=>(by cases hp)⟩,hg,fun l hl=>(by cases hl)⟩
def Z0d (ld done:List (List OpD)) (s:Vn):Prop:=s.fin≤s.out.length∧∃ m r,m <+: done∧ld.length≤m.length∧s.out.take s.fin=ZG m++r∧YM r=none
theorem Qh {z y:List UInt8} (h:z[0]?=some 0):(z++y)[0]?=some 0:=by
 cases z with
 | nil=>cases h
 | cons a z=>simpa using h
theorem Qp {t torn:Int} {ks:List Bool} {ld done:List (List OpD)} (hld:ld.length≤done.length):∀ (us:List PcA) (s:Vn) (z:List UInt8),(∀ p∈us,p.safe=0∧p.came≤t)→s.out=ZG done++z→z[0]?=some 0→Z0d ld done s→Z0d ld done (us.foldl (Zr t ks torn) s)
 | [],s,z,_,_,_,h=>h
 | p :: us,s,z,hu,ho,hz,h=>by
  have hp:=hu p (by simp)
  have hu2:∀ q∈us,q.safe=0∧q.came≤t:=fun q hq=>hu q (by simp[hq])
  rw[List.foldl_cons]
  by_cases hk:ks[s.n]?=some true
  ·have e:Zr t ks torn s p=⟨s.out++p.bs,s.out.length+X5 torn (p.bs.length+1),s.n+1⟩:=by
    unfold Zr
    rw[if_neg (by omega),if_neg (fun e=>e.1 hp.1),if_pos hk]
   have hlt:=U0 torn (show 0<p.bs.length+1 by omega)
   rw[e]
   refine Qp hld us _ (z++p.bs) hu2 (by show s.out++p.bs=_;rw[ho,List.append_assoc]) (Qh hz) ⟨by show _≤(s.out++p.bs).length;rw[List.length_append];show s.out.length+_≤_;omega,done,z++p.bs.take (X5 torn (p.bs.length+1)),List.prefix_refl _,hld,?_,Z5C (Qh hz)⟩
   show (s.out++p.bs).take (s.out.length+X5 torn (p.bs.length+1))=_
   rw[List.take_append,List.take_of_length_le (by omega),Nat.add_sub_cancel_left,ho,List.append_assoc]
  ·have e:Zr t ks torn s p=⟨s.out++List.replicate p.bs.length 0,s.fin,s.n+1⟩:=by
    unfold Zr
    rw[if_neg (by omega),if_neg (fun e=>e.1 hp.1),if_neg hk]
   rw[e]
   obtain ⟨h1,m,r,h2,h3,h4,h5⟩:=h
   refine Qp hld us _ (z++List.replicate p.bs.length 0) hu2 (by show s.out++_=_;rw[ho,List.append_assoc]) (Qh hz) ⟨by show s.fin≤(s.out++_).length;rw[List.length_append];omega,m,r,h2,h3,?_,h5⟩
   show (s.out++List.replicate p.bs.length 0).take s.fin=_
   rw[List.take_append_of_le_length h1]
   exact h4
theorem Z1K {t torn:Int} {ks:List Bool} {ld:List (List OpD)}:∀ (us:List PcA) (lu done:List (List OpD)) (s:Vn),us.map (·.bs)=lu.map Yt→(∀ p∈us,p.safe=0∧p.came≤t)→(∀ l∈lu,Yo l)→ld.length≤done.length→s.out=ZG done→Z0d ld done s →
  Z0d ld (done++lu) (us.foldl (Zr t ks torn) s)
 | [],lu,done,s,hm,_,_,_,_,h=>by
  have:lu=[]:=by
   cases lu with
   | nil=>rfl
   | cons l lu=>simp at hm
  subst this
  rw[List.append_nil]
  exact h
 | p :: us,lu,done,s,hm,hu,hg,hld,ho,h=>by
  cases lu with
  | nil=>simp at hm
  | cons l lu =>
   simp only[List.map_cons,List.cons.injEq] at hm
   obtain ⟨hb,hm⟩:=hm
   have hp:=hu p (by simp)
   have hu2:∀ q∈us,q.safe=0∧q.came≤t:=fun q hq=>hu q (by simp[hq])
   have hg2:∀ x∈lu,Yo x:=fun x hx=>hg x (by simp[hx])
   have hgl:=hg l (by simp)
   have hlen:=Wz l
   rw[List.foldl_cons]
   by_cases hk:ks[s.n]?=some true
   ·have e:Zr t ks torn s p=⟨s.out++p.bs,s.out.length+X5 torn (p.bs.length+1),s.n+1⟩:=by
     unfold Zr
     rw[if_neg (by omega),if_neg (fun e=>e.1 hp.1),if_pos hk]
    have hlt:=U0 torn (show 0<p.bs.length+1 by omega)
    rw[e,show done++l :: lu=(done++[l])++lu by simp]
    refine Z1K us lu (done++[l]) _ hm hu2 hg2 (by simp;omega) (by show s.out++p.bs=_;rw[ho,hb,XN,VC]) ⟨by show _≤(s.out++p.bs).length;rw[List.length_append];show s.out.length+_≤_;omega,?_⟩
    show ∃ m r,m <+: done++[l]∧ld.length≤m.length∧(s.out++p.bs).take (s.out.length+X5 torn (p.bs.length+1))=ZG m++r∧YM r=none
    rw[List.take_append,List.take_of_length_le (by omega),Nat.add_sub_cancel_left,ho,hb]
    rw[hb] at hlt
    by_cases ht:X5 torn ((Yt l).length+1)=(Yt l).length
    ·refine ⟨done++[l],[],List.prefix_refl _,by simp;omega,?_,Z1h⟩
     rw[ht,List.take_length,XN,VC,List.append_nil]
    ·exact ⟨done,_,List.prefix_append _ _,hld,rfl,Z5X hgl (by omega)⟩
   ·have e:Zr t ks torn s p=⟨s.out++List.replicate p.bs.length 0,s.fin,s.n+1⟩:=by
     unfold Zr
     rw[if_neg (by omega),if_neg (fun e=>e.1 hp.1),if_neg hk]
    rw[e]
    obtain ⟨h1,m,r,h2,h3,h4,h5⟩:=h
    have hz:(List.replicate p.bs.length (0:UInt8))[0]?=some 0:=by
     rw[List.getElem?_replicate,if_pos (by rw[hb];omega)]
    have:=Qp (t:=t) (torn:=torn) (ks:=ks) hld us ⟨s.out++List.replicate p.bs.length 0,s.fin,s.n+1⟩ (List.replicate p.bs.length 0) hu2 (by show s.out++_=_;rw[ho]) hz ⟨by show s.fin≤(s.out++_).length;rw[List.length_append];omega,m,r,h2,h3,by
     show (s.out++List.replicate p.bs.length 0).take s.fin=_
     rw[List.take_append_of_le_length h1]
     exact h4,h5⟩
    obtain ⟨g1,m',r',g2,g3,g4,g5⟩:=this
    exact ⟨g1,m',r',g2.trans (List.prefix_append _ _),g3,g4,g5⟩
theorem XT.left {ps:List PcA} {ld lu:List (List OpD)} (h:XT ps ld lu) {t:Int} (hc:∀ p∈ps,p.came≤t∧p.safe≤t) (ks:List Bool) (torn:Int):∃ k,k≤lu.length∧Xc (XG t ks torn ps)=ld++lu.take k:=by
 obtain ⟨ds,us,rfl,h1,h2,h3,h4⟩:=h.split
 have key1:∀ (ps:List PcA) (o:List UInt8) (n:Nat),(∀ p∈ps,p.came≤t∧p.safe≤t∧p.safe≠0)→ps.foldl (Zr t ks torn) ⟨o,o.length,n⟩=⟨o++Zp ps,(o++Zp ps).length,n⟩:=by
  intro ps
  induction ps with
  | nil=>intro o n _;simp[Zp]
  | cons p ps ih =>
   intro o n h
   obtain ⟨h1,h2,h3⟩:=h p List.mem_cons_self
   have e:Zr t ks torn ⟨o,o.length,n⟩ p=⟨o++p.bs,(o++p.bs).length,n⟩:=by
    unfold Zr
    rw[if_neg (by omega),if_pos ⟨h3,h2⟩]
   rw[List.foldl_cons,e,ih _ _ (fun q hq=>h q (List.mem_cons_of_mem _ hq))]
   simp[Zp,List.flatMap_cons]
 have e1:XY t ks torn (ds++us)=us.foldl (Zr t ks torn) ⟨ZG ld,(ZG ld).length,0⟩:=by
  unfold XY
  rw[List.foldl_append,show (⟨[],0,0⟩:Vn)=⟨[],([]:List UInt8).length,0⟩ from rfl,key1 ds [] 0 (fun p hp=>by have:=hc p (by simp[hp]);exact ⟨this.1,this.2,h1 p hp⟩),List.nil_append,h2]
 obtain ⟨_,m,r,g2,g3,g4,g5⟩:=Z1K (t:=t) (torn:=torn) (ks:=ks) (ld:=ld) us lu ld ⟨ZG ld,(ZG ld).length,0⟩ h3 (fun p hp=>⟨h4 p hp,(hc p (by simp[hp])).1⟩) h.gu (Nat.le_refl _) rfl
  ⟨Nat.le_refl _,ld,[],List.prefix_refl _,Nat.le_refl _,by simp,Z1h⟩
 rw[←e1] at g4
 have hm:m=ld++lu.take (m.length - ld.length):=by
  have e:=List.prefix_iff_eq_take.1 g2
  have e2:(ld++lu).take m.length=ld.take m.length++lu.take (m.length - ld.length):=List.take_append
  rw[List.take_of_length_le g3] at e2
  exact e.trans e2
 refine ⟨m.length - ld.length,by have:=g2.length_le;rw[List.length_append] at this;omega,?_⟩
 rw[←hm]
 exact (Ri (fun l hl=>h.good l (g2.subset hl)) g4 g5).1
def Z0X (A:Z4) (f:Nat) (L:List OpD) (S:Nat→Prop):Prop:=∀ ks torn,∃ k,k≤L.length∧S k∧(Xc (XG A.now ks torn (A.fs f))).flatten=L.take k
theorem Z3v {α:Type} {ls ms:List (List α)}:ls.flatten=(ls++ms).flatten.take ls.flatten.length:=by
 rw[List.flatten_append,List.take_left]
theorem XT.out {A:Z4} {f:Nat} {ld lu:List (List OpD)} (h:XT (A.fs f) ld lu) (hh:A.Hist) (hf:f∈A.ids) {S:Nat→Prop} (hS:∀ k,k≤lu.length→S (ld++lu.take k).flatten.length):Z0X A f (ld++lu).flatten S:=fun ks torn=>by
 obtain ⟨k,h1,h2⟩:=h.left (fun p hp=>hh.pcs f hf p hp) ks torn
 have e:ld++lu=(ld++lu.take k)++lu.drop k:=by rw[List.append_assoc,List.take_append_drop]
 refine ⟨(ld++lu.take k).flatten.length,?_,hS k h1,?_⟩
 ·have h9:=congrArg (fun x=>x.flatten.length) e
  simp only[List.flatten_append,List.length_append] at h9 ⊢
  omega
 ·rw[h2]
  conv=>rhs;rw[e]
  exact Z3v
def Wo (m:List (ByteArray × Nat)):Prop:=(m.map (·.1)).Nodup∧∀ n f,Z8 m n=some f→n=Zl∨n=Zn
theorem Rw:Zl≠Zn:=by decide
theorem Z7P {a b:ByteArray}:∀ l:List ByteArray,l.Nodup→(∀ n∈l,n=a∨n=b)→l.length≤2
 | [],_,_=>by simp
 | [_],_,_=>by simp
 | [_,_],_,_=>by simp
 | x :: y :: z :: r,hn,h=>by
  simp only[List.nodup_cons,List.mem_cons,not_or] at hn
  rcases h x (by simp) with h1|h1 <;> rcases h y (by simp) with h2|h2 <;> rcases h z (by simp) with h3|h3 <;> subst h1 <;> subst_vars <;> simp_all
theorem Wo.len {m:List (ByteArray × Nat)} (h:Wo m):m.length≤2:=by
 have hs:∀ n∈m.map (·.1),n=Zl∨n=Zn:=fun n hn=>by
  have h1:Z8 m n≠none:=fun e=>(WH m n).1 e hn
  cases h2:Z8 m n with
  | none=>exact absurd h2 h1
  | some f=>exact h.2 n f h2
 have:=Z7P _ h.1 hs
 simpa using this
theorem Wo.step {m:List (ByteArray × Nat)} (h:Wo m) (c:Chg) (hc:c.f≠none→c.name=Zl∨c.name=Zn):Wo (ZU c m):=by
 refine ⟨SU c m h.1,fun n f hn=>?_⟩
 rw[Xe c m h.1] at hn
 cases hf:c.f with
 | none =>
  rw[hf] at hn
  dsimp only at hn
  split at hn
  ·cases hn
  ·exact h.2 n f hn
 | some g =>
  rw[hf] at hn
  dsimp only at hn
  split at hn
  ·rename_i e;rw[e];exact hc (by rw[hf];simp)
  ·split at hn
   ·cases hn
   ·exact h.2 n f hn
structure Z6O (A:Z4) (F:List Nat) (L:List OpD) (S:Nat→Prop):Prop where
 hist:A.Hist
 now:0≤A.now
 inj:A.Inj
 sub:∀ f∈F,f∈A.ids
 ex:∃ P,VB A P∧∀ m∈P,Wo m∧∃ f,Z8 m Zl=some f∧f∈F∧Z0X A f L S
theorem Z6O.cut {A B A':Z4} {F:List Nat} {L:List OpD} {S:Nat→Prop} (h:Z6O A F L S) (hl:UB A B) {nm torn:Int} {ks:List Bool} (hc:SG B (YU B A.now nm) A.now ks torn A') (hnd:(A'.base.map (·.1)).Nodup) :
  ∃ fb k,Z8 A'.base Zl=some fb∧k≤L.length∧S k∧(Xc (Zp (A'.fs fb))).flatten=L.take k∧Wo A'.base:=by
 obtain ⟨P,h1,h2⟩:=h.ex
 rw[hl.names h.hist h.now nm] at hc
 obtain ⟨h3,f,h4,h5,h6⟩:=h2 _ (h1 nm)
 obtain ⟨fb,g1,g2,g3⟩:=hc.has Zl f (Wy h4)
 obtain ⟨k,k1,k2,k3⟩:=h6 ks torn
 refine ⟨fb,k,g1,k1,k2,?_,hnd,fun n g hn=>?_⟩
 ·rw[g3,hl.left (h.sub f h5),show Zp [⟨XG A.now ks torn (A.fs f),0,-1⟩]=XG A.now ks torn (A.fs f) by simp[Zp]]
  exact k3
 ·have hm:n∈A'.base.map (·.1):=List.mem_map.2 ⟨_,Wy hn,rfl⟩
  have hm2:=hc.perm.subset hm
  cases h7:Z8 (YU A A.now nm) n with
  | none=>exact absurd hm2 ((WH _ _).1 h7)
  | some f'=>exact h3.2 n f' h7
structure St9 (A:Z4) (F:List Nat) (f:Nat) (L:List OpD) (S:Nat→Prop):Prop where
 d:Z6O A F L S
 two:Wo A.files
 lg:Z8 A.files Zl=some f
 mem:f∈F
 out:Z0X A f L S
section
variable {A:Z4} {F:List Nat} {f fb:Nat} {L:List OpD} {S:Nat→Prop}
theorem Z3T (hi:A.Inj):(rmA A).Inj:=by
 unfold rmA
 split
 ·exact hi
 ·exact hi.step _ (fun g hg=>(by cases hg))
theorem Z4b (A:Z4):A.now≤(rmA A).now:=by
 unfold rmA
 split
 ·exact Int.le_refl _
 ·simp only[Zz];omega
theorem Z3U (h:Wo A.files):Wo (rmA A).files:=by
 unfold rmA
 split
 ·exact h
 ·exact h.step ⟨0,⟨#[]⟩,Zn,none⟩ (fun e=>absurd rfl e)
theorem Z2q (h:A.Hist):(rmA A).Hist:=by
 unfold rmA
 split
 ·exact h
 ·exact h.step _
theorem Z7q (hi:A.Inj) (hf:fb∉A.ids):(an1 fb A).Inj:=by
 have h1:=Z3T hi
 have h2:fb∉(rmA A).ids:=by rw[VE];exact hf
 exact (h1.born fb).step _ (fun g hg=>by
  cases hg
  exact ⟨⟨List.mem_cons_self,VR⟩,fun n hn=>absurd (h1.ids n _ hn) h2⟩)
theorem Z7T (fb:Nat) (bs:List UInt8) (A:Z4):∃ a n:Int,(Ro fb bs A).fs fb=[Ve n ⟨bs,a,0⟩]∧n=(Yw fb bs (an1 fb A)).now+1∧a=(an1 fb A).now+1:=by
 refine ⟨_,_,?_,rfl,rfl⟩
 show (X4 fb (Yw fb bs (an1 fb A))).fs fb=_
 simp only[X4,Yw,if_true,Z3b,List.nil_append,List.map_cons,List.map_nil]
theorem Z7E (fb:Nat) (A:Z4):A.now+1≤(an1 fb A).now:=by
 have:=Z4b A
 show A.now+1≤(rmA A).now+1
 omega
structure YR (A:Z4) (f:Nat) (ld lu:List (List OpD)):Prop where
 hist:A.Hist
 now:0≤A.now
 inj:A.Inj
 names:VB A [A.files]
 two:Wo A.files
 lg:Z8 A.files Zl=some f
 nn:Z8 A.files Zn=none
 pcs:XT (A.fs f) ld lu
theorem YR.fin {ld lu:List (List OpD)} (h:YR A f ld lu):f∈A.ids:=h.inj.ids _ _ h.lg
theorem YR.st {ld lu:List (List OpD)} (h:YR A f ld lu) (hS:∀ k,k≤lu.length→S (ld++lu.take k).flatten.length):St9 A [f] f (ld++lu).flatten S:=by
 have ho:=h.pcs.out h.hist h.fin hS
 exact ⟨⟨h.hist,h.now,h.inj,fun g hg=>by rw[List.mem_singleton.1 hg];exact h.fin,[A.files],h.names,fun m hm=>by rw[List.mem_singleton.1 hm];exact ⟨h.two,f,h.lg,by simp,ho⟩⟩,h.two,h.lg,by simp,ho⟩
theorem YR.app {ld lu:List (List OpD)} (h:YR A f ld lu) {l:List OpD} (hl:Yo l):YR (Yw f (Yt l) A) f ld (lu++[l]):=by
 have hn:=h.now
 refine ⟨h.hist.app h.now f _,by simp only[Yw];omega,⟨h.inj.nd,h.inj.ids,h.inj.one,h.inj.rt⟩,h.names.now h.hist rfl rfl rfl (by simp only[Yw];omega),h.two,h.lg,h.nn,?_⟩
 simp only[Yw,if_true]
 exact h.pcs.app hl _
theorem YR.sync {ld lu:List (List OpD)} (h:YR A f ld lu):YR (X4 f A) f (ld++lu) []:=by
 have hn:=h.now
 refine ⟨h.hist.sync f,by simp only[X4];omega,⟨h.inj.nd,h.inj.ids,h.inj.one,h.inj.rt⟩,h.names.now h.hist rfl rfl rfl (by simp only[X4];omega),h.two,h.lg,h.nn,?_⟩
 simp only[X4,if_true]
 exact h.pcs.sync (by omega)
theorem YR.of_syn {ld lu:List (List OpD)} (h1:A.Hist) (h2:0≤A.now) (h3:A.Inj) (h4:Wo A.files) (h5:Z8 A.files Zl=some f) (h6:Z8 A.files Zn=none) (h7:XT (A.fs f) ld lu):YR (XO A) f ld lu :=
 ⟨h1.syns,by simp only[XO];omega,⟨h3.nd,h3.ids,h3.one,h3.rt⟩,VB.syn_ h1,h4,h5,h6,h7⟩
theorem Z5R (bs:List UInt8) (a n:Int):Ve n ⟨bs,a,0⟩=⟨bs,a,n⟩:=rfl
theorem Z3p {ms:List (List OpD)} (h1:A.Hist) (h2:0≤A.now) (h3:A.Inj) (h4:Wo A.files) (hf:fb∉A.ids) (hg:∀ m∈ms,Yo m):YR (Ro fb (ZG ms) A) fb ms []:=by
 have hi:=Z7q h3 hf
 have hr:=VE A
 have hn1:=Z7E fb A
 obtain ⟨a,n,e1,e2,e3⟩:=Z7T fb (ZG ms) A
 have hh1:(an1 fb A).Hist:=((Z2q h1).born fb).step _
 have hh2:(an2 fb (ZG ms) A).Hist:=((hh1.app (by omega) fb _).sync fb).syns
 have ht1:Wo (an1 fb A).files:=(Z3U h4).step ⟨0,Zn,⟨#[]⟩,some fb⟩ (fun _=>.inr rfl)
 have hnow2:0≤(an2 fb (ZG ms) A).now:=by show 0≤(an1 fb A).now+1+1+1;omega
 have hi2:(an2 fb (ZG ms) A).Inj:=⟨hi.nd,hi.ids,hi.one,hi.rt⟩
 have hgn:Z8 (an2 fb (ZG ms) A).files Zn=some fb:=Wr fb A
 refine YR.of_syn (hh2.step _) (by simp only[Zz];omega) (hi2.step _ (fun g hg'=>by cases hg';exact ⟨⟨hi2.ids _ _ hgn,Va⟩,fun n hn=>hi2.one n _ _ hn hgn⟩)) (ht1.step ⟨0,Zl,Zn,some fb⟩ (fun _=>.inl rfl)) ?_ ?_ ?_
 ·show Z8 (ZU ⟨0,Zl,Zn,some fb⟩ (an1 fb A).files) Zl=some fb
  rw[Xe _ _ hi.nd]
  dsimp only
  rw[if_pos rfl]
 ·show Z8 (ZU ⟨0,Zl,Zn,some fb⟩ (an1 fb A).files) Zn=none
  rw[Xe _ _ hi.nd]
  dsimp only
  rw[if_neg (fun e=>Rw e.symm),if_pos rfl]
 ·show XT ((Ro fb (ZG ms) A).fs fb) ms []
  rw[e1,Z5R]
  exact XT.made hg (by rw[e2];show (an1 fb A).now+1+1≠0;omega)
theorem Rq.steady {A':Z4} (h:Rq A A' L) (h1:A.Hist) (h2:0≤A.now) (h3:A.Inj) (h4:Wo A.files):∃ f ld,YR A' f ld []∧ld.flatten=L∧(Z8 A.files Zl=none→ld=[])∧∀ g,Z8 A.files Zl=some g→ld=Xc (Zp (A.fs g)):=by
 rcases h with ⟨hno,rfl,fb,hf,rfl⟩|⟨f,hg,rfl,⟨hc,fb,hf,rfl⟩|⟨hc,hn,rfl⟩⟩
 ·have hi:=Z3T h3
  have hfr:fb∉(rmA A).ids:=by rw[VE];exact hf
  have hnl:Z8 (rmA A).files Zl=none:=by
   unfold rmA
   split
   ·exact hno
   ·show Z8 (ZU ⟨0,⟨#[]⟩,Zn,none⟩ A.files) Zl=none
    rw[Xe _ _ h3.nd]
    dsimp only
    split
    ·rfl
    ·exact hno
  have hnow:=Z4b A
  refine ⟨fb,[],YR.of_syn (((Z2q h1).born fb).step _) (by show 0≤(rmA A).now+1;omega) ((hi.born fb).step _ (fun g hg=>by cases hg;exact ⟨⟨List.mem_cons_self,Va⟩,fun n hn=>absurd (hi.ids n _ hn) hfr⟩)) ((Z3U h4).step ⟨0,Zl,⟨#[]⟩,some fb⟩ (fun _=>.inl rfl)) ?_ ?_ ?_,rfl,fun _=>rfl,fun g hg=>(by rw[hno] at hg;cases hg)⟩
  ·show Z8 (ZU ⟨0,Zl,⟨#[]⟩,some fb⟩ (rmA A).files) Zl=some fb
   rw[Xe _ _ hi.nd]
   dsimp only
   rw[if_pos rfl]
  ·show Z8 (ZU ⟨0,Zl,⟨#[]⟩,some fb⟩ (rmA A).files) Zn=none
   rw[Xe _ _ hi.nd]
   dsimp only
   rw[if_neg (fun e=>Rw e.symm)]
   split
   ·rfl
   ·exact Z2B h3.nd
  ·show XT ((ZQ fb (rmA A)).fs fb) [] []
   simp only[ZQ,if_true]
   exact ⟨⟨[],[],rfl,fun p hp=>(by cases hp),rfl,rfl,fun p hp=>(by cases hp)⟩,fun l hl=>(by cases hl),fun l hl=>(by cases hl)⟩
 ·have hsp:=WS (Zp (A.fs f))
  rw[R9]
  refine ⟨fb,Xc (Zp (A.fs f)),Z3p h1 h2 h3 h4 hf hsp.1,rfl,fun e=>(by rw[hg] at e;cases e),fun g hg'=>(by rw[hg] at hg';cases hg';rfl)⟩
 ·have hsp:=WS (Zp (A.fs f))
  have hall:Zp (A.fs f)=ZG (Xc (Zp (A.fs f))):=by
   have:=hsp.2.1
   rw[hc,List.drop_length,List.append_nil] at this
   exact this
  refine ⟨f,Xc (Zp (A.fs f)),YR.of_syn (h1.sync f) (by show 0≤A.now+1;omega) ⟨h3.nd,h3.ids,h3.one,h3.rt⟩ h4 hg hn ?_,rfl,fun e=>(by rw[hg] at e;cases e),fun g hg'=>(by rw[hg] at hg';cases hg';rfl)⟩
  show XT ((X4 f A).fs f) (Xc (Zp (A.fs f))) []
  simp only[X4,if_true]
  exact ⟨⟨_,[],(List.append_nil _).symm,fun p hp=>(by obtain ⟨q,_,rfl⟩:=List.mem_map.1 hp;exact Z1g (by omega) q),(by rw[QV];exact hall),rfl,fun p hp=>(by cases hp)⟩,hsp.1,fun l hl=>(by cases hl)⟩
end
def VH:OpD:=⟨⟨1,0⟩,0,0,0,0,0,0,0,0,1,⟨0,0⟩,2,97,⟨0,0⟩,ZN,ZN,ZN,⟨0,0⟩,false,⟨0,0⟩,false⟩
theorem RV:VH.right=true:=by kernel_rfl
theorem Z32:VH.wf:=by
 refine ⟨⟨by decide,by decide,by decide⟩,fun c hc=>?_⟩
 unfold fld VH
 split <;> decide
theorem Z2k (n:Nat):1≤(Z5 n).length:=List.length_pos_iff.2 (Wm n)
theorem Z1y (x:Int) (l:List Int):2≤(Zd (x :: l)).length:=by
 rw[Zd,List.length_append,List.length_append]
 have:=Z2k (Zc x l+1)
 have:=Z2k (Yh x)
 omega
theorem Z1t (o:OpD) (l:List OpD):∀ n,2*n≤(ZR (o :: l) n).length
 | 0=>by omega
 | n+1=>by
  have ih:=Z1t o l n
  rw[WB,List.length_append]
  have:2≤(Wv (o :: l) n).length:=by
   unfold Wv
   split
   ·exact Z1y _ _
   ·exact Z1y _ _
  omega
theorem Z5I:30<(Xj [VH]).length∧∃ r,Xj [VH]=1 :: r:=by
 have h:=Z1t VH [] 21
 rw[Rm]
 have e:Z5 ([VH]:List OpD).length=[1]:=by
  rw[XM (by decide)]
  rfl
 rw[e]
 refine ⟨?_,_,rfl⟩
 rw[List.length_append,List.length_append]
 omega
end Go.Proofs.YtgmdimbiipemhaaGreatDoor
namespace Go.Proofs.YtgmdimbiipemhaaGreatDoor
theorem Z1W {n:Nat} (h:0<n) (hl:n<18446744073709551616):(Z5 n).length≤n:=by
 by_cases h1:n<128
 ·rw[XM h1];simp;omega
 ·have:=(Wj n 10 (by omega)).2 (by omega)
  omega
theorem Sj {k:Nat}:∀ (n:Nat) (l:List Int),l.length=n→n<18446744073709551615→(∀ x∈l,(Z5 (Yh x)).length≤k)→(Zd l).length≤(k+1)*l.length:=by
 intro n
 induction n using Nat.strongRecOn with
 | ind n ih =>
  intro l hn hl hz
  cases l with
  | nil=>simp[Zd]
  | cons x l =>
   have hle:=XC x l
   rw[List.length_cons] at hn
   rw[Zd,List.length_append,List.length_append,List.length_cons]
   have h1:(Z5 (Zc x l+1)).length≤Zc x l+1:=Z1W (by omega) (by omega)
   have h2:(Z5 (Yh x)).length≤k:=hz x (by simp)
   have h3:=ih (l.drop (Zc x l)).length (by rw[List.length_drop];omega) _ rfl (by rw[List.length_drop];omega) (fun y hy=>hz y (List.mem_cons_of_mem _ (List.mem_of_mem_drop hy)))
   rw[List.length_drop] at h3
   obtain ⟨d,hd⟩:∃ d,l.length=Zc x l+d:=⟨l.length - Zc x l,by omega⟩
   rw[hd,Nat.add_sub_cancel_left] at h3
   rw[hd]
   have e1:(k+1)*(Zc x l+d+1)=(k+1)*d+(k+1)*Zc x l+(k+1):=by rw[Nat.mul_add,Nat.mul_add];omega
   have e2:Zc x l≤(k+1)*Zc x l:=by rw[Nat.add_mul];omega
   omega
theorem Z3H:∀ (m:Nat) (v:Bool) (l:List Bool),2*l.length+(if l.head?=some v then 0 else 1)=m→l.length<18446744073709551616→(ZT v l).length≤l.length+(if l.head?=some v then 0 else 1):=by
 intro m
 induction m using Nat.strongRecOn with
 | ind m ih =>
  intro v l hm hl
  by_cases h:l=[]
  ·subst h;rw[Xo];simp
  ·rw[X3 h,List.length_append]
   have h1:=VS v h
   have hle:=XC v l
   have h2:=ih _ (by rw[←hm];exact h1) (!v) (l.drop (Zc v l)) rfl (by rw[List.length_drop];omega)
   rw[List.length_drop] at h2
   rw[List.length_drop] at h1
   by_cases h5:l.head?=some v
   ·have h6:0<Zc v l:=by
     cases l with
     | nil=>exact absurd rfl h
     | cons x l =>
      rw[List.head?_cons] at h5
      rw[Zc,if_pos (Option.some.inj h5)]
      omega
    have h3:=Z1W h6 (by omega)
    rw[if_pos h5]
    rcases Tc (XX v l) with h4|h4
    ·rw[h4,Xo]
     simp only[List.length_nil]
     omega
    ·rw[if_pos h4] at h2
     omega
   ·have h6:Zc v l=0:=by
     cases l with
     | nil=>exact absurd rfl h
     | cons x l =>
      rw[List.head?_cons] at h5
      rw[Zc,if_neg (fun e=>h5 (congrArg some e))]
    rw[if_neg h5]
    rw[h6] at h2 ⊢
    have h3:(Z5 0).length=1:=by rw[XM (by omega)];rfl
    rw[h3]
    rcases Tc (XX v l) with h4|h4
    ·rw[h6] at h4
     exact absurd (by simpa using h4) h
    ·rw[h6] at h4
     rw[if_pos h4] at h2
     omega
theorem Z3L {l:List Bool} (hl:l.length<18446744073709551616):(Yx l).length≤l.length+1:=by
 have:=Z3H _ false l rfl hl
 unfold Yx
 split at this <;> omega
theorem Z2N {s:St} (h:ZS s=true):0≤s.n∧s.n≤1048576∧0≤s.r∧s.r≤1048576:=by
 have:=of_decide_eq_true h
 omega
theorem UU {o:OpD} {s:St} (h:o.may s=true):0≤s.n∧s.n≤1048576∧0≤s.r∧s.r≤1048576:=by
 unfold OpD.may at h
 rw[Bool.and_eq_true] at h
 exact Z2N h.1
def TL (s:St):Prop:=0≤s.n∧s.n≤1048576∧0≤s.r∧s.r≤1048576
theorem XP:TL ⟨0,0⟩:=by unfold TL;simp
theorem Z2o:∀ (l:List Int) (a:Int),l.foldl min a≤a∧∀ x∈l,l.foldl min a≤x
 | [],a=>⟨Int.le_refl _,fun _ h=>by cases h⟩
 | y :: l,a=>by
  have h:=Z2o l (min a y)
  rw[List.foldl_cons]
  refine ⟨by omega,fun x hx=>?_⟩
  rcases List.mem_cons.1 hx with rfl|hx
  ·omega
  ·exact h.2 x hx
theorem Z2W:∀ (l:List Int) (a:Int),a≤l.foldl max a∧∀ x∈l,x≤l.foldl max a
 | [],a=>⟨Int.le_refl _,fun _ h=>by cases h⟩
 | y :: l,a=>by
  have h:=Z2W l (max a y)
  rw[List.foldl_cons]
  refine ⟨by omega,fun x hx=>?_⟩
  rcases List.mem_cons.1 hx with rfl|hx
  ·omega
  ·exact h.2 x hx
theorem Z5i {o:OpD} (h:o.right=true):TL o.id∧(∀ x∈o.deps,0≤x∧x≤1048576)∧(0≤o.kind∧o.kind≤1048576)∧TL o.ref∧(0≤o.side∧o.side≤1048576)∧(0≤o.ch∧o.ch≤1048576)∧TL o.under∧TL o.fr∧TL o.tr:=by
 unfold OpD.right at h
 simp only[Bool.and_eq_true] at h
 obtain ⟨h1,h2,h3,hk⟩:=h
 have hid:=Z2N h1
 have hd:∀ x∈o.deps,0≤x∧x≤1048576:=by
  have e2:¬ VI o.deps<0:=by simpa using h2
  have e3:¬ o.id.n≤Wx o.deps:=by simpa using h3
  intro x hx
  have l1:=Z2o o.deps (o.deps.headD 0)
  have l2:=Z2W o.deps (o.deps.headD 0)
  have l3:VI o.deps≤x:=l1.2 x hx
  have l4:x≤Wx o.deps:=l2.2 x hx
  have:=hid.2.1
  omega
 refine ⟨hid,hd,?_⟩
 unfold OpD.kindOk at hk
 split at hk
 ·rename_i e
  rw[Bool.and_eq_true] at hk
  obtain ⟨h4,h5⟩:=hk
  have e5:=of_decide_eq_true h5
  unfold OpD.okI at h4
  simp only[Bool.and_eq_true,Bool.or_eq_true,decide_eq_true_eq] at h4
  have hr:TL o.ref:=by
   rcases h4.1 with h6|h6
   ·rw[h6.2];exact XP
   ·exact UU h6.1
  have hs:0≤o.side∧o.side≤1048576:=by
   rcases h4.1 with h6|h6
   ·have:=h6.1;omega
   ·rcases h6.2 with h7|h7 <;> omega
  have hc:0≤o.ch∧o.ch≤1048576:=by
   rcases h4.2 with h6|h6 <;> omega
  exact ⟨by omega,hr,hs,hc,by rw[←congrArg OpD.under e5];exact XP,by rw[←congrArg OpD.fr e5];exact XP,by rw[←congrArg OpD.tr e5];exact XP⟩
 ·split at hk
  ·rename_i e
   rw[Bool.and_eq_true] at hk
   obtain ⟨h4,h5⟩:=hk
   have e5:=of_decide_eq_true h5
   exact ⟨by omega,UU h4,by rw[←congrArg OpD.side e5];exact (show (0:Int)≤0∧(0:Int)≤1048576 from by decide),by rw[←congrArg OpD.ch e5];exact (show (0:Int)≤0∧(0:Int)≤1048576 from by decide),by rw[←congrArg OpD.under e5];exact XP,by rw[←congrArg OpD.fr e5];exact XP,by rw[←congrArg OpD.tr e5];exact XP⟩
  ·split at hk
   ·rename_i e
    rw[Bool.and_eq_true] at hk
    obtain ⟨h4,h5⟩:=hk
    have e5:=of_decide_eq_true h5
    unfold OpD.okM at h4
    simp only[Bool.and_eq_true,Bool.or_eq_true,decide_eq_true_eq] at h4
    have hu:TL o.under:=by
     rcases h4.1.1.2 with h6|h6
     ·rw[h6];exact XP
     ·exact UU h6
    exact ⟨by omega,UU h4.1.1.1,by rw[←congrArg OpD.side e5];exact (show (0:Int)≤0∧(0:Int)≤1048576 from by decide),by rw[←congrArg OpD.ch e5];exact (show (0:Int)≤0∧(0:Int)≤1048576 from by decide),hu,by rw[←congrArg OpD.fr e5];exact XP,by rw[←congrArg OpD.tr e5];exact XP⟩
   ·split at hk
    ·rename_i e
     rw[Bool.and_eq_true] at hk
     obtain ⟨h4,h5⟩:=hk
     have e5:=of_decide_eq_true h5
     unfold OpD.okS at h4
     simp only[Bool.and_eq_true] at h4
     exact ⟨by omega,UU h4.1.1,by rw[←congrArg OpD.side e5];exact (show (0:Int)≤0∧(0:Int)≤1048576 from by decide),by rw[←congrArg OpD.ch e5];exact (show (0:Int)≤0∧(0:Int)≤1048576 from by decide),by rw[←congrArg OpD.under e5];exact XP,by rw[←congrArg OpD.fr e5];exact XP,by rw[←congrArg OpD.tr e5];exact XP⟩
    ·split at hk
     ·rename_i e
      rw[Bool.and_eq_true] at hk
      obtain ⟨h4,h5⟩:=hk
      have e5:=of_decide_eq_true h5
      unfold OpD.okK at h4
      simp only[Bool.and_eq_true] at h4
      exact ⟨by omega,by rw[←congrArg OpD.ref e5];exact XP,by rw[←congrArg OpD.side e5];exact (show (0:Int)≤0∧(0:Int)≤1048576 from by decide),by rw[←congrArg OpD.ch e5];exact (show (0:Int)≤0∧(0:Int)≤1048576 from by decide),by rw[←congrArg OpD.under e5];exact XP,UU h4.1.1.1,UU h4.1.1.2⟩
     ·cases hk
theorem Z5S {o:OpD} (h:o.right=true) (c:Nat):0≤fld o c∧fld o c≤1048576:=by
 obtain ⟨h1,h2,h3,h4,h5,h6,h7,h8,h9⟩:=Z5i h
 unfold TL at *
 have hd:∀ x∈[o.d0,o.d1,o.d2,o.d3,o.d4,o.d5,o.d6,o.d7],0≤x∧x≤1048576:=h2
 unfold fld
 split
 ·exact ⟨h1.1,h1.2.1⟩
 ·exact ⟨h1.2.2.1,h1.2.2.2⟩
 ·exact hd _ (by simp)
 ·exact hd _ (by simp)
 ·exact hd _ (by simp)
 ·exact hd _ (by simp)
 ·exact hd _ (by simp)
 ·exact hd _ (by simp)
 ·exact hd _ (by simp)
 ·exact hd _ (by simp)
 ·exact h3
 ·exact ⟨h4.1,h4.2.1⟩
 ·exact ⟨h4.2.2.1,h4.2.2.2⟩
 ·exact h5
 ·exact h6
 ·exact ⟨h7.1,h7.2.1⟩
 ·exact ⟨h7.2.2.1,h7.2.2.2⟩
 ·exact ⟨h8.1,h8.2.1⟩
 ·exact ⟨h8.2.2.1,h8.2.2.2⟩
 ·exact ⟨h9.1,h9.2.1⟩
 ·exact ⟨h9.2.2.1,h9.2.2.2⟩
theorem Z2g {x:Int} (h:-2097152≤x∧x≤2097152):(Z5 (Yh x)).length≤4:=by
 refine (Wj _ 4 (by omega)).2 ?_
 unfold Yh
 split <;> omega
theorem Z7F {x:Int} (h:0≤x∧x≤64):(Z5 (Yh x)).length≤2:=by
 refine (Wj _ 2 (by omega)).2 ?_
 unfold Yh
 split <;> omega
theorem R5 {o:OpD} (h:o.right=true):o.key.size≤64∧o.name.size≤8∧o.value.size≤16:=by
 unfold OpD.right at h
 simp only[Bool.and_eq_true] at h
 obtain ⟨_,_,_,hk⟩:=h
 have hz:ZN.size=0:=rfl
 have key:∀ p:OpD,p=o→o.key=p.key∧o.name=p.name∧o.value=p.value:=fun p e=>by rw[e];exact ⟨rfl,rfl,rfl⟩
 unfold OpD.kindOk at hk
 split at hk
 ·rw[Bool.and_eq_true] at hk
  obtain ⟨h1,h2,h3⟩:=key _ (of_decide_eq_true hk.2)
  rw[h1,h2,h3]
  exact ⟨(show ZN.size≤64 by decide),(show ZN.size≤8 by decide),(show ZN.size≤16 by decide)⟩
 ·split at hk
  ·rw[Bool.and_eq_true] at hk
   obtain ⟨h1,h2,h3⟩:=key _ (of_decide_eq_true hk.2)
   rw[h1,h2,h3]
   exact ⟨(show ZN.size≤64 by decide),(show ZN.size≤8 by decide),(show ZN.size≤16 by decide)⟩
  ·split at hk
   ·rw[Bool.and_eq_true] at hk
    obtain ⟨h1,h2,h3⟩:=key _ (of_decide_eq_true hk.2)
    have h4:=hk.1
    unfold OpD.okM YS at h4
    simp only[Bool.and_eq_true,decide_eq_true_eq] at h4
    refine ⟨h4.2.1.1.2,?_,?_⟩
    ·rw[h2];exact (show ZN.size≤8 by decide)
    ·rw[h3];exact (show ZN.size≤16 by decide)
   ·split at hk
    ·rw[Bool.and_eq_true] at hk
     obtain ⟨h1,h2,h3⟩:=key _ (of_decide_eq_true hk.2)
     have h4:=hk.1
     unfold OpD.okS YG YD at h4
     simp only[Bool.and_eq_true,decide_eq_true_eq] at h4
     refine ⟨?_,h4.1.2.1.2,h4.2.1⟩
     rw[h1];exact (show ZN.size≤64 by decide)
    ·split at hk
     ·rw[Bool.and_eq_true] at hk
      obtain ⟨h1,h2,h3⟩:=key _ (of_decide_eq_true hk.2)
      have h4:=hk.1
      unfold OpD.okK YG YD at h4
      simp only[Bool.and_eq_true,decide_eq_true_eq] at h4
      refine ⟨?_,h4.1.2.1.2,h4.2.1⟩
      rw[h1];exact (show ZN.size≤64 by decide)
     ·cases hk
theorem Rb:∀ (l:List Int) (p:Int),(0≤p∧p≤1048576)→(∀ x∈l,0≤x∧x≤1048576)→∀ y∈YQ p l,-2097152≤y∧y≤2097152
 | [],_,_,_,y,h=>by cases h
 | x :: l,p,hp,hl,y,h=>by
  have hx:=hl x (by simp)
  rw[YQ] at h
  rcases List.mem_cons.1 h with rfl|h
  ·rw[Z6j (by omega) (by omega)];omega
  ·exact Rb l x hx (fun z hz=>hl z (by simp[hz])) y h
theorem Z2A {l:List Int} (hl:∀ x∈l,0≤x∧x≤1048576):∀ y∈ZM l,-2097152≤y∧y≤2097152:=by
 cases l with
 | nil=>intro y h;cases h
 | cons x l =>
  intro y h
  have hx:=hl x (by simp)
  rw[ZM] at h
  rcases List.mem_cons.1 h with rfl|h
  ·omega
  ·exact Rb l x hx (fun z hz=>hl z (by simp[hz])) y h
theorem Z4H {l:List OpD} (hr:∀ x∈l,x.right=true) (c:Nat):∀ y∈Y9 l c,0≤y∧y≤1048576:=fun y hy=>by
 obtain ⟨o,ho,rfl⟩:=List.mem_map.1 hy
 exact Z5S (hr o ho) c
theorem Z5f {l:List OpD} (hn:l.length≤200) (hr:∀ x∈l,x.right=true) (c:Nat):(Wv l c).length≤5*l.length:=by
 have hs:=Z4H hr c
 have hl:(Y9 l c).length=l.length:=List.length_map _
 unfold Wv
 split
 ·have:=Sj (k:=4) _ (ZM (Y9 l c)) rfl (by rw[Xg,hl];omega) (fun x hx=>Z2g (Z2A hs x hx))
  rw[Xg,hl] at this
  exact this
 ·have:=Sj (k:=4) _ (Y9 l c) rfl (by rw[hl];omega) (fun x hx=>Z2g (by have:=hs x hx;omega))
  rw[hl] at this
  exact this
theorem QQ {l:List OpD} (hn:l.length≤200) (hr:∀ x∈l,x.right=true):∀ n,(ZR l n).length≤5*l.length*n
 | 0=>by simp[ZR]
 | n+1=>by
  have:=QQ hn hr n
  have h2:=Z5f hn hr n
  rw[WB,List.length_append,Nat.mul_add,Nat.mul_one]
  omega
theorem Z1M {k c:Nat}:∀ (l:List OpD),(∀ o∈l,(txt o c).size≤k)→(ZF l c).length≤k*l.length
 | [],_=>by simp[ZF]
 | o :: l,h=>by
  have h1:=h o (by simp)
  have h2:=Z1M l (fun p hp=>h p (by simp[hp]))
  have e:ZF (o :: l) c=(txt o c).data.toList++ZF l c:=rfl
  rw[e,List.length_append,List.length_cons,Nat.mul_add,Nat.mul_one]
  have:(txt o c).data.toList.length=(txt o c).size:=by rw[Array.length_toList];rfl
  omega
theorem TM {l:List OpD} (hn:l.length≤200) {k c:Nat} (hk:k≤64) (h:∀ o∈l,(txt o c).size≤k):(Zd (ZA l c)++ZF l c).length≤(3+k)*l.length:=by
 have hl:(ZA l c).length=l.length:=List.length_map _
 have h1:=Sj (k:=2) _ (ZA l c) rfl (by rw[hl];omega) (fun x hx=>by
  obtain ⟨o,ho,rfl⟩:=List.mem_map.1 hx
  have:=h o ho
  exact Z7F (by omega))
 have h2:=Z1M l h
 rw[List.length_append,Nat.add_mul]
 rw[hl] at h1
 omega
theorem Z5d {l:List OpD} (hn:l.length≤200) (hr:∀ x∈l,x.right=true):(Xj l).length≤204*l.length+4:=by
 have h0:(Z5 l.length).length≤2:=(Wj _ 2 (by omega)).2 (by omega)
 have h1:=QQ hn hr 21
 have h2:∀ c,(Yx (Zx l c)).length≤l.length+1:=fun c=>by
  have hl:(Zx l c).length=l.length:=List.length_map _
  have:=Z3L (l:=Zx l c) (by rw[hl];omega)
  rw[hl] at this
  exact this
 have a0:=h2 0
 have a1:=h2 1
 have b0:=TM hn (k:=64) (c:=0) (by omega) (fun o ho=>(R5 (hr o ho)).1)
 have b1:=TM hn (k:=8) (c:=1) (by omega) (fun o ho=>(R5 (hr o ho)).2.1)
 have b2:=TM hn (k:=16) (c:=2) (by omega) (fun o ho=>(R5 (hr o ho)).2.2)
 have e1:Yy l 2=Yx (Zx l 0)++Yx (Zx l 1):=by simp[Yy,List.range_succ]
 have e2:X7 l 3=(Zd (ZA l 0)++ZF l 0)++((Zd (ZA l 1)++ZF l 1)++(Zd (ZA l 2)++ZF l 2)):=by simp[X7,List.range_succ]
 unfold Xj
 rw[e1,e2]
 simp only[List.length_append] at b0 b1 b2 h1 a0 a1 h0 ⊢
 omega
end Go.Proofs.YtgmdimbiipemhaaGreatDoor
