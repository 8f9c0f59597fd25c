/- OplogKeeps, part 12 of what the proof leans on (made short by a program). -/
import Derived.Test.YtgmdimbiipemhaaGreatDoorKeZ11
import Derived.LaidMore
import Derived.Lay
import Derived.Test.YtgmdimbiipemhaaGreatDoorTie
import Derived.Test.YtgmdimbiipemhaaGreatDoorCards
set_option linter.unusedSimpArgs false
set_option linter.unusedVariables false
set_option linter.unusedSectionVars false
set_option maxRecDepth 20000
set_option maxHeartbeats 30000000
namespace Go.Proofs.YtgmdimbiipemhaaGreatDoor
open Go.ChangeShapes Go.WideShapes Go.RowKit Go.Deep
structure UP where
 at_:Int
 names:Int
 keep:Sl
 torn:Int
 ks:List Bool
def UP.cells (x:UP):List Value:=[.int .i64 x.at_,.int .i64 x.names,.slice x.keep.a x.keep.n x.keep.cap,.int .i64 x.torn]
structure UP.In (x:UP) (w:World):Prop where
 sl:Z0 Q3 1 w (.slice x.keep.a x.keep.n x.keep.cap) x.ks
 a:inR x.at_
 n:inR x.names
 t:inR x.torn
structure Xi where
 kind:Int
 l:Sl
 b:Sl
 c:UP
 ls:List OpD
 bs:List UInt8
def Xi.cells (x:Xi):List Value:=[.int .i64 x.kind,.slice x.l.a x.l.n x.l.cap,.slice x.b.a x.b.n x.b.cap,.int .i64 x.c.at_,.int .i64 x.c.names,.slice x.c.keep.a x.c.keep.n x.c.keep.cap,.int .i64 x.c.torn]
theorem Xi.len (x:Xi):x.cells.length=7:=rfl
structure Xi.In (x:Xi) (w:World):Prop where
 l:Z0 OpD.cells 26 w (.slice x.l.a x.l.n x.l.cap) x.ls
 wf:∀ o∈x.ls,o.wf
 b:Z0 u8c 1 w (.slice x.b.a x.b.n x.b.cap) x.bs
 c:x.c.In w
section
variable {H:Type} {enc:TypeId × Value→H} {w:World} {base:Nat} {spare:Nat→Bool} {held:Bool}
theorem Z6O {fuel:Nat} {cs:List Value} {x:DataW H × List MemPlace} (h:DataW.trod enc Tryz.prog w base spare held fuel 4 cs=some x):∃ y:Bool,cs=Q3 y∧True:=by
 obtain ⟨p,hp,_⟩:=DataW.trod_bool Tryz.underlying4 h
 exact ⟨p,hp,trivial⟩
theorem Sf {fuel:Nat} {a4 a5 a6 a7:Value} {x:DataW H × List MemPlace} (h:DataW.trod enc Tryz.prog w base spare held fuel 77 [a4,a5,a6,a7]=some x):∃ x:UP,[a4,a5,a6,a7]=x.cells∧x.In w:=by
 obtain ⟨ys,m,_,_,_,hyl,hg⟩:=DataW.trod_struct Tryz.underlying77 h
 have c1:Tryz.prog.cellsOf 3=1:=by kernel_rfl
 have c4:Tryz.prog.cellsOf 75=1:=by kernel_rfl
 have g0:DataW.trod enc Tryz.prog w base spare held m 3 [a4]=ys[0]?:=by simpa [c1] using hg 0 _ rfl
 have g1:DataW.trod enc Tryz.prog w base spare held m 3 [a5]=ys[1]?:=by simpa [c1] using hg 1 _ rfl
 have g2:DataW.trod enc Tryz.prog w base spare held m 75 [a6]=ys[2]?:=by simpa [c4] using hg 2 _ rfl
 have g3:DataW.trod enc Tryz.prog w base spare held m 3 [a7]=ys[3]?:=by simpa [c1] using hg 3 _ rfl
 simp at hyl
 obtain ⟨at_,h0,b1⟩:=XP Tryz.underlying3 (g0.trans (List.getElem?_eq_getElem (by omega)))
 obtain ⟨ns,h1,b2⟩:=XP Tryz.underlying3 (g1.trans (List.getElem?_eq_getElem (by omega)))
 obtain ⟨vk,ks,h6,hk,_⟩:=Ve (ea:=Q3) (k:=1) (p:=fun _=>True) Tryz.underlying75 (by kernel_rfl) (by omega) (fun _=>rfl) (fun _ _ _ h=>Z6O h) (g2.trans (List.getElem?_eq_getElem (by omega)))
 obtain ⟨tn,h3,b3⟩:=XP Tryz.underlying3 (g3.trans (List.getElem?_eq_getElem (by omega)))
 obtain ⟨ka,kc,ek,_⟩:=id hk
 simp only[List.cons.injEq,and_true] at h6
 subst h0 h1 h3 h6 ek
 exact ⟨⟨at_,ns,⟨ka,ks.length,kc⟩,tn,ks⟩,rfl,hk,b1,b2,b3⟩
theorem Z47 {fuel:Nat} {cs:List Value} {x:DataW H × List MemPlace} (h:DataW.trod enc Tryz.prog w base spare held fuel 79 cs=some x):∃ y:Xi,cs=y.cells∧y.In w:=by
 obtain ⟨xs,n,_,_,hlen,hxl,hf⟩:=DataW.trod_struct Tryz.underlying79 h
 have hc:Tryz.prog.cellsOf 79=7:=by kernel_rfl
 have c1:Tryz.prog.cellsOf 3=1:=by kernel_rfl
 have c2:Tryz.prog.cellsOf 24=1:=by kernel_rfl
 have c3:Tryz.prog.cellsOf 22=1:=by kernel_rfl
 have c5:Tryz.prog.cellsOf 77=4:=by kernel_rfl
 rw[hc] at hlen
 match cs,hlen with
 | [a0,a1,a2,a3,a4,a5,a6],_ =>
  have f0:DataW.trod enc Tryz.prog w base spare held n 3 [a0]=xs[0]?:=by simpa [c1] using hf 0 _ rfl
  have f1:DataW.trod enc Tryz.prog w base spare held n 24 [a1]=xs[1]?:=by simpa [c2] using hf 1 _ rfl
  have f2:DataW.trod enc Tryz.prog w base spare held n 22 [a2]=xs[2]?:=by simpa [c3] using hf 2 _ rfl
  have f3:DataW.trod enc Tryz.prog w base spare held n 77 [a3,a4,a5,a6]=xs[3]?:=by simpa [c5] using hf 3 _ rfl
  simp at hxl
  obtain ⟨kd,h0,_⟩:=XP Tryz.underlying3 (f0.trans (List.getElem?_eq_getElem (by omega)))
  obtain ⟨vl,ls,h1,hl,hwf⟩:=Ve (ea:=OpD.cells) (k:=26) (p:=OpD.wf) Tryz.underlying24 (by kernel_rfl) (by omega) OpD.len (fun _ _ _ h=>Z5O h) (f1.trans (List.getElem?_eq_getElem (by omega)))
  obtain ⟨vb,bs,h2,hb,_⟩:=Ve (ea:=u8c) (k:=1) (p:=fun _=>True) Tryz.underlying22 (by kernel_rfl) (by omega) Z7 (fun _ _ _ h=>Z6r h) (f2.trans (List.getElem?_eq_getElem (by omega)))
  obtain ⟨c,h3,hc⟩:=Sf (f3.trans (List.getElem?_eq_getElem (by omega)))
  obtain ⟨la,lc,el,_⟩:=id hl
  obtain ⟨ba,bc,eb,_⟩:=id hb
  simp only[UP.cells,List.cons.injEq,and_true] at h1 h2 h3
  obtain ⟨h3,h4,h5,h6⟩:=h3
  subst h0 h1 h2 h3 h4 h5 h6 el eb
  exact ⟨⟨kd,⟨la,ls.length,lc⟩,⟨ba,bs.length,bc⟩,c,ls,bs⟩,rfl,hl,hwf,hb,hc⟩
theorem Z2J {r:Reach} {b0:Nat} {v:Value} {d:DataW H} {p:List MemPlace} (hv:Value.okWide Tryz.prog w r b0 71 v) (h:DataW.Trod enc Tryz.prog w base spare held 71 v d p):∃ l:List Xi,Z0 Xi.cells 7 w v l∧∀ x∈l,x.In w:=by
 obtain ⟨a0,len0,cap0,rfl⟩:=okWide_slice Tryz.underlying71 hv
 obtain ⟨fuel,hf⟩:=h
 obtain ⟨v',l,hcs,hl,hp⟩:=Ve (ea:=Xi.cells) (k:=7) (p:=fun x=>Xi.In x w) Tryz.underlying71 (by kernel_rfl) (by omega) Xi.len (fun _ _ _ h=>Z47 h) hf
 simp[Value.cells] at hcs
 subst hcs
 exact ⟨l,hl,hp⟩
end
end Go.Proofs.YtgmdimbiipemhaaGreatDoor
namespace Go.Proofs.YtgmdimbiipemhaaGreatDoor
open Go.RowKit Go.Deep
attribute [local go_sem] Oper.semAt_some
theorem Z0.part9 {α:Type} {ea:α→List Value} {q:Nat} {w:World} {g o n cap lo m:Nat} {l:List α} (h:Z0 ea q w (.slice (some ⟨g,o,none⟩) n cap) l) (hm:((l.drop lo).take m).length=m) (hmx:m≤maxLen) :
  Z0 ea q w (.slice (some ⟨g,o+lo*q,none⟩) m m) ((l.drop lo).take m):=by
 obtain ⟨a,c,e,h1,h2,h3⟩:=h
 simp only[Value.slice.injEq] at e
 obtain ⟨e1,e2,e3⟩:=e
 refine ⟨_,m,by rw[hm],by rw[hm];exact Nat.le_refl _,hmx,fun hne=>⟨g,o+lo*q,rfl,fun i x hx j u hj=>?_⟩⟩
 have hl:l≠[]:=fun e=>hne (by rw[e];simp)
 obtain ⟨b,o2,e4,h4⟩:=h3 hl
 rw[←e1] at e4
 simp only[Option.some.injEq,Addr.mk.injEq] at e4
 obtain ⟨rfl,rfl,_⟩:=e4
 rw[List.getElem?_take] at hx
 split at hx
 ·rw[List.getElem?_drop] at hx
  have:=h4 (lo+i) x hx j u hj
  rw[Nat.add_mul] at this
  rw[show o+lo*q+i*q+j=o+(lo*q+i*q)+j by omega]
  exact this
 ·cases hx
theorem LT.off {base:Nat} {w w' w'':World} {D D':DSh} {A A':Z2} {lb:Nat} {vo vo':Value} {L':List OpD} {sy':Int} {S:Nat→Prop} (h:LT base w D A lb vo w' D' A' vo' L' sy') (hx:Ext S w' w'') (hf:∀ b,XR D' A' b→¬ S b) (hu:∀ b,ZX w' b=some 5→¬ S b) (hl:¬ S lb) (ho:∀ b,vo'.ownBlock=some b→¬ S b) (hw:∀ b,S b→w.heap.size≤b):LT base w D A lb vo w'' D' A' vo' L' sy' :=
 ⟨h.disk.ext hx hf (fun b _ ht=>hu b ht),h.pb,⟨(hx.block lb h.log.b.lt hl).trans h.log.b,h.log.o.ext hx ho,h.log.lo,h.log.wf⟩,h.ext.andThen hx (fun i hi hs=>absurd (hw i hs) (by omega)),h.foot,h.own⟩
theorem Ty.below1 {b lo:Nat} {l:List UInt8} {W W':World} (h:Ty b lo l W) (hb:Below W.heap.size W W'):Ty b lo l W':=by
 obtain ⟨v,lr,h1,h2⟩:=h
 exact ⟨v,lr,(hb.block b (Array.getElem?_eq_some_iff.1 h1).1).trans h1,h2.below1 hb⟩
theorem Z6h {L:List OpD} (h:WB L) {k:Nat} (hk:k≤chN L.length):(Zb (Wq L k)).length≤204*L.length+15*k:=by
 have h1:=Z1B (ls:=Wq L k) (fun l hl=>by
  obtain ⟨j,hj,rfl⟩:=List.mem_map.1 hl
  exact TO h (by have:=List.mem_range.1 hj;omega))
 rw[TG,List.length_take] at h1
 have h2:(Wq L k).length=k:=by simp[Wq]
 rw[h2] at h1
 omega
theorem Z0R {l:List UInt8} {j:Nat} (h:j<l.length):(Lib.byteCells l)[j]?=(u8c l[j])[0]?:=by
 unfold Lib.byteCells
 rw[List.getElem?_map,List.getElem?_eq_getElem h]
 rfl
def Z14 (base:Nat) (w:World) (D:DSh) (A:Z2) (lb:Nat) (vo:Value) (L:List OpD) (e:Ending) (w':World):Prop :=
 e=.returned (.int .i64 0)∧∃ fb D',fb∉A.ids∧LT base w D A lb vo w' D' (Wo fb (Zb (YL L)) A) vo L L.length
theorem Z1X {base:Nat} {w:World} {D:DSh} {A:Z2} {lb:Nat} {vo:Value} {L:List OpD} {sy:Int} (hd:Z4 base w D A) (hbw:base≤w.heap.size) (hl:Yr base w D.pb lb vo L sy) {N:Nat} (hsm:A.Small N) (hN:N≤800000) (hfl:A.files.length≤7) (hL:L.length≤1000000) (hgl:WB L) (hsz:(Zb (YL L)).length≤1048576) :
  Calls Tryz.prog 42 #[.pointer (some ⟨lb,0,none⟩)] w fun e w'=>Z14 base w D A lb vo L e w':=by
 obtain ⟨va,vc,hvo,hcap,hmax,-⟩:=hl.o.slice OpD.len
 unfold maxLen at hmax
 have hcl0:=hl.b.c0
 have hcl1:=hl.b.c1
 rw[hvo] at hcl1
 have HH:=Jh (And.intro hd (And.intro hbw (And.intro hl (And.intro hsm (And.intro hgl hsz)))))
 have HVO:=Lib.hid hvo
 have hll:=hl.b.lt
 clear hd hbw hl hsm hgl hsz hvo
 refine (callsIn_wide (n:=7)).1 ?_
 refine callsIn_of_wp_marks Tryz.func42 rfl trivial ?_ rfl
 simp only[Tryz.ntmps42,List.size_toArray,List.length_cons,List.length_nil,Nat.reduceAdd,Nat.reduceSub,Array.replicate_succ,Array.replicate_zero,List.push_toArray,List.append_toArray,List.nil_append,List.cons_append]
 gi_wp2
 refine ⟨trivial,?_⟩
 obtain ⟨b,hb⟩:=Je (w.heap.size+1)
 obtain ⟨w1,hw1⟩:=Je ((w.alloc (.cells #[.int .i64 0] 25)).alloc (.cells #[.slice none 0 0,.int .i64 0,.int .i8 0] 150))
 have hz1:w1.heap.size=b+1:=by rw[←hw1];simp;omega
 have hb1:Below w.heap.size w w1:=by rw[←hw1];exact ((Below.refl _ w).alloc (Nat.le_refl _) _).alloc (by simp) _
 have hr1:w1.heap[w.heap.size]?=some (.cells #[.int .i64 0] 25 (0,0)):=by
  rw[←hw1,Below.heap_alloc _ _ _ (by simp)]
  exact World.alloc_heap_new w _
 have hbf1:w1.heap[b]?=some (.cells #[.slice none 0 0,.int .i64 0,.int .i8 0] 150 (0,0)):=by
  have:=World.alloc_heap_new (w.alloc (.cells #[.int .i64 0] 25)) (.cells #[.slice none 0 0,.int .i64 0,.int .i8 0] 150)
  rw[World.size_alloc,hb,hw1] at this
  exact this
 rw[hw1,hb]
 clear hw1
 refine (callsIn_wide.2 (Z4x va L.length vc _)).mono ?_
 rintro e w2 ⟨rfl,rfl⟩
 obtain ⟨W0,hW0⟩:=Je ((w1.alloc (.cells #[.slice va L.length vc] 24)).alloc (.cells #[.int .i64 200] 3))
 have hz0:W0.heap.size=b+3:=by rw[←hW0];simp;omega
 have hb0:Below w1.heap.size w1 W0:=by rw[←hW0];exact ((Below.refl _ w1).alloc (Nat.le_refl _) _).alloc (by simp) _
 have hs0:W0.heap[b+1]?=some (.cells #[.slice va L.length vc] 24 (0,0)):=by
  rw[←hW0,Below.heap_alloc _ _ _ (by simp;omega),←hz1]
  exact World.alloc_heap_new w1 _
 have hn0:W0.heap[b+2]?=some (.cells #[.int .i64 200] 3 (0,0)):=by
  have:=World.alloc_heap_new (w1.alloc (.cells #[.slice va L.length vc] 24)) (.cells #[.int .i64 200] 3)
  rw[World.size_alloc,hW0,hz1] at this
  exact this
 rw[hW0,hz1]
 have hbf0:W0.heap[b]?=some (.cells #[.slice none 0 0,.int .i64 0,.int .i8 0] 150 (0,0)):=(hb0.block b (by omega)).trans hbf1
 have HW0:=Jh (And.intro (hb1.trans (hb0.mono hb1.size)) (And.intro ((hb0.block _ (by omega)).trans hr1) (And.intro hs0 hn0)))
 have HZ:=Jh (And.intro hz0 hb)
 clear hW0 hz1 hb1 hr1 hbf1 hb0
 gi_wp2
 obtain ⟨g,hg⟩:∃ g,0<L.length→va=some ⟨g,0,none⟩:=by
  rcases HH.out.2.2.1.o.eq_slice with ⟨_,e⟩|⟨g,c,e,_⟩
  ·exact ⟨0,fun h=>by rw[e] at h;simp at h⟩
  ·rw[HVO.out] at e
   simp only[Value.slice.injEq] at e
   exact ⟨g,fun _=>e.1⟩
 refine Z3G (U:=Nat) (by omega) (gf:=128) (lb:=#[.pointer (some ⟨b+1,0,none⟩),.pointer (some ⟨b+1+1,0,none⟩)]) rfl (enters_of Tryz.func128 (by kernel_rfl) rfl)
  (fun k:Nat=>#[.slice (some ⟨g,200*k*26,none⟩) (chM L.length k) (chM L.length k)]) (fun _=>rfl) (fun k=>k=b∨W0.heap.size+1<k) (fun k e=>by omega) (List.range (chN L.length))
  (fun pre X=>pre=List.range pre.length∧Ty b (W0.heap.size+2) (Zb (Wq L pre.length)) X∧Ext (fun k=>k=b) W0 X)
  (fun pre X X' hh hx=>?_)
  (Z2n 6 (by omega) (b+1) (b+1+1) va g vc L.length hg _ W0 (cell_of_one hs0) (cell_of_one hn0) hcap (by omega) (by show ¬ (b+1=b∨W0.heap.size+1<b+1);omega) (by show ¬ (b+1+1=b∨W0.heap.size+1<b+1+1);omega)) ⟨rfl,⟨_,_,hbf0,Own.nil⟩,Ext.refl _ _⟩ ?_ ?_
 ·obtain ⟨h1,⟨v,lr,h2,h3⟩,h4⟩:=hh
  have hlt:=(Array.getElem?_eq_some_iff.1 h2).1
  exact ⟨h1,⟨v,lr,(hx.block _ hlt (by omega)).trans h2,h3.ext hx (fun i hi e=>by have:=(h3.blk i hi).1;omega)⟩,h4.andThen hx (fun i hi e=>by omega)⟩
 ·rintro l pre k X ⟨hp1,hbuf,hx⟩ hpx hlt
  have hk:k=pre.length∧k<chN L.length:=by
   obtain ⟨t,ht⟩:=hpx
   have h5:=congrArg (fun z=>z[pre.length]?) ht
   simp only[List.append_assoc,List.singleton_append,List.getElem?_append_right (Nat.le_refl _),Nat.sub_self,List.getElem?_cons_zero] at h5
   obtain ⟨h6,h7⟩:=List.getElem?_eq_some_iff.1 h5.symm
   simp at h6 h7
   exact ⟨h7.symm,by omega⟩
  obtain ⟨hk1,hk2⟩:=hk
  have HPR:=Jh (And.intro hp1 (And.intro hbuf hx))
  have HK1:=Jh (And.intro hk1 hpx)
  clear hp1 hbuf hx hk1 hpx
  gi_wp2
  refine ⟨Ext.refl _ _,HPR.out,fun W2 ⟨hq1,hbuf2,hx2⟩ hxx hdf hlp=>?_⟩
  have HQ1:=Jh (And.intro hq1 (And.intro hbuf2 (And.intro hx2 (And.intro hdf hlp))))
  have hL0:0<L.length:=by unfold chN at hk2;omega
  obtain rfl:=hg hL0
  have hown2:Own OpD.cells 26 68 base W2 (.slice (some ⟨g,0,none⟩) L.length vc) L:=by
   have h5:=HH.out.2.2.1.o
   rw[HVO.out] at h5
   exact (h5.below1 HW0.out.1).ext hx2 (fun i hi e=>by have:=(h5.blk i hi).2;have:=HZ.out;omega)
  have hch:Z0 OpD.cells 26 W2 (.slice (some ⟨g,200*k*26,none⟩) (chM L.length k) (chM L.length k)) (XU L k):=by
   have h5:=Z0.part9 (lo:=200*k) (m:=chM L.length k) (hown2.slice OpD.len) (by rw[List.length_take,List.length_drop];unfold chM;omega) (by unfold chM maxLen;omega)
   rw[Nat.zero_add] at h5
   have e5:(L.drop (200*k)).take (chM L.length k)=XU L k:=by
    unfold XU chM
    rw[List.take_eq_take_iff,List.length_drop]
    omega
   rwa [e5] at h5
  have hgk:=TO HH.out.2.2.2.2.1 hk2
  obtain ⟨c,hc⟩:=Je (chM L.length k)
  rw[hc] at hch ⊢
  have HCH:=Jh (And.intro hch (And.intro hgk hc))
  have hz2:W0.heap.size+2≤W2.heap.size:=by
   obtain ⟨lp,hl5⟩:=hlp
   have:=(Array.getElem?_eq_some_iff.1 hl5).1
   omega
  clear hq1 hbuf2 hx2 hxx hdf hlp hown2 hch hgk hc
  refine wpIn_block ?_
  gi_wp2
  refine ⟨trivial,CallsIn.inRound l (callsIn_wide.2 ((R2 _ (XU L k) _ HCH.out.1 (fun x hx=>(HCH.out.2.1.2.2.1 x hx).2) (by have:=HCH.out.2.1.2.1;omega)).mono ?_))⟩
  rintro e w3 hp
  unfold Z2k at hp
  rcases hp with ⟨-,-,-,-,v,rfl,hown,hb3⟩|⟨s,n,hc,rfl,hb3⟩
  ·have HOWN:=Jh (And.intro hown hb3)
   obtain ⟨va3,vc3,hv3,-,-,hcs3⟩:=hown.slice Z7
   have hfl3:0<(ZI (XU L k)).length:=by rw[Xl];omega
   obtain ⟨g3,o3,hva3,hcell3⟩:=hcs3 (fun e=>by rw[e] at hfl3;simp at hfl3)
   have hg3:W2.heap.size≤g3:=(hown.blk g3 (by rw[hv3,hva3];rfl)).1
   subst hv3
   subst hva3
   have HC3:=Lib.hid hcell3
   clear hcs3 hcell3 hown hb3
   gi_wp2
   have hkl:=HK1.out.1
   have hj2:=HQ1.out.2.1.below1 HOWN.out.2
   have hlim:(Zb (Wq L pre.length)).length+(ZI (XU L k)).length≤140737488355328:=by
    have h1:=Z6h HH.out.2.2.2.2.1 (show k≤chN L.length by omega)
    have h2:(ZI (XU L k)).length≤65547:=by rw[Xl];have:=HCH.out.2.1.2.2.2;omega
    rw[←hkl]
    unfold chN at h1 hk2
    omega
   have hz:=HZ.out.1
   refine ⟨trivial,CallsIn.inRound l (callsIn_wide.2 ((Any.Buffer_Write_any Tryz.bufWF b b (Lib.byteCells (Zb (Wq L pre.length))) (Lib.byteCells (ZI (XU L k))) ⟨g3,o3,none⟩ (ZI (XU L k)).length vc3 w3 (hj2.is_ (by omega)) (by have:=HOWN.out.2.size;omega) (Lib.byteCells_one _) (Lib.byteCells_length _) (by show g3≠b;omega) (fun j u hj=>?_) (Lib.byteCells_one _) (by rw[Lib.byteCells_length];exact hlim)).mono ?_))⟩
   ·have hjl:=(List.getElem?_eq_some_iff.1 hj).1
    rw[Lib.byteCells_length] at hjl
    have h5:=HC3.out j (ZI (XU L k))[j] (List.getElem?_eq_getElem hjl) 0 u (by rw[Z0R hjl] at hj;exact hj)
    rw[Nat.mul_one,Nat.add_zero] at h5
    have e5:(⟨g3,o3,none⟩:Addr).add j=⟨g3,o3+j,none⟩:=by
     unfold Addr.add
     split
     ·next e=>subst e;rfl
     ·rfl
    rw[e5]
    exact h5
   ·rintro e w4 ⟨rfl,hb4,hB4,hO4⟩
    have HB4:=Jh (And.intro hb4 (And.intro hB4 hO4))
    clear hb4 hB4 hO4 hj2 hkl hlim hz
    gi_wp2
    have hkl:=HK1.out.1
    have hz:=HZ.out.1
    have hkeep:∀ i o,W2.heap[i]?=some o→i<W2.heap.size→i≠b→(∀ c fz,o≠.cells c 5 fz)→w4.heap[i]?=some o:=fun i o h1 h2 h3 h4=>HB4.out.2.2 i o ((HOWN.out.2.block i h2).trans h1) (fun e=>h3 (Option.some.inj e)) h4
    have hx2:=HQ1.out.2.2.1
    have hB24:Below b W2 w4:=(HOWN.out.2.mono (by omega)).trans HB4.out.2.1
    have k1:w4.heap[b+1]?=W0.heap[b+1]?:=by
     rw[HW0.out.2.2.1]
     exact hkeep _ _ ((hx2.block _ (by omega) (by omega)).trans HW0.out.2.2.1) (by omega) (by omega) (fun c fz e=>by cases e)
    have k2:w4.heap[b+2]?=W0.heap[b+2]?:=by
     rw[HW0.out.2.2.2]
     exact hkeep _ _ ((hx2.block _ (by omega) (by omega)).trans HW0.out.2.2.2) (by omega) (by omega) (fun c fz e=>by cases e)
    have k3:=hkeep _ _ HQ1.out.2.2.2.1 (by omega) (by omega) (fun c fz e=>by cases e)
    obtain ⟨lp,hlp⟩:=HQ1.out.2.2.2.2
    have k4:=hkeep _ _ hlp (by omega) (by omega) (fun c fz e=>by cases e)
    have hXX:Ext (fun k=>k=b∨W0.heap.size+1<k) W2 w4:=⟨hB24.os,hB24.tape,hB24.output,hB24.size,fun i hi hs=>by
     by_cases h1:i<b
     ·exact hB24.block i h1
     ·by_cases h2:i=b+1
      ·subst h2;rw[k1,hx2.block _ (by omega) (by omega)]
      ·by_cases h3:i=b+2
       ·subst h3;rw[k2,hx2.block _ (by omega) (by omega)]
       ·by_cases h4:i=W0.heap.size
        ·subst h4;rw[k3,HQ1.out.2.2.2.1]
        ·have h5:i=W0.heap.size+1:=by omega
         subst h5;rw[k4,hlp]⟩
    refine ⟨⟨?_,?_,hx2.andThen hXX (fun i hi e=>by omega)⟩,hXX⟩
    ·rw[List.length_append,List.length_singleton,List.range_succ,←HQ1.out.1,hkl]
    ·rw[List.length_append,List.length_singleton,Qc,XW,VN,←hkl]
     have h6:=HB4.out.1
     rw[←Lib.byteCells_append,←hkl] at h6
     refine Ty.of h6 (fun i c fz h7 h8 h9=>?_)
     by_cases h2:i=b+1
     ·subst h2;rw[k1,HW0.out.2.2.1] at h9;cases h9
     ·by_cases h3:i=b+2
      ·subst h3;rw[k2,HW0.out.2.2.2] at h9;cases h9
      ·by_cases h4:i=W0.heap.size
       ·subst h4;rw[k3] at h9;cases h9
       ·have h5:i=W0.heap.size+1:=by omega
        subst h5;rw[k4] at h9;cases h9
  ·exfalso
   obtain ⟨h1,h2,h3,h4⟩:=HCH.out.2.1
   rcases hc with ⟨-,h|h⟩|⟨-,-,-,x,hx,h⟩|⟨-,h⟩
   ·exact h1 h
   ·omega
   ·rw[(h3 x hx).1] at h;cases h
   ·omega
 ·rintro X ⟨-,hj,hx⟩ hK
  have HX:=Jh (And.intro hj (And.intro hx hK))
  have hz:=HZ.out.1
  have hbX:Below w.heap.size w X:=Ext.new HW0.out.1 hx (fun i hi _ e=>by omega) (by omega)
  have HT:=Jh (LT.of_turned HH.out.1 HH.out.2.2.1 (Zd.below HH.out.1 hbX))
  have HBX:=Lib.hid hbX
  rw[List.length_range] at hj
  have HJ:=Lib.hid hj
  clear hj hx hK hz hbX
  gi_wp2
  refine ⟨trivial,callsIn_wide.2 ((Any.Buffer_Bytes Tryz.bufBF b b (Lib.byteCells (Zb (YL L))) X (HJ.out.is_ (by have:=HZ.out.1;omega))).mono ?_)⟩
  rintro e X2 ⟨v,rfl,hown,nd,hX2⟩
  have hb2:Below X.heap.size X X2:=by rw[hX2];exact ⟨rfl,rfl,rfl,Nat.le_refl _,fun _ _=>rfl⟩
  have hown2:Own u8c 1 5 b X2 v (Zb (YL L)):=by
   unfold Own
   rw[Ud,VG] at hown
   exact hown
  obtain ⟨va5,vc5,hv5,-,-,-⟩:=hown2.slice Z7
  subst hv5
  have HV5:=Lib.hid hown2
  have HT2:=Jh (HT.out.below hb2)
  have HB2:=Lib.hid hb2
  clear hown hown2 hX2 hb2
  gi_wp2
  refine ⟨trivial,callsIn_wide.2 ((Rz HT2.out.disk (by have:=HH.out.2.1;have:=HBX.out.size;have:=HB2.out.size;omega) HH.out.2.2.2.1 (by omega) hfl lb vo sy HT2.out.log.b va5 _ vc5 (Zb (YL L)) (HV5.out.slice Z7) (fun a e=>?_) (by have:=HH.out.2.2.2.2.2;omega)).mono ?_)⟩
  ·subst e
   have h9:=HV5.out.eq_slice
   rcases h9 with ⟨e9,_⟩|⟨g9,c9,e9,_,_⟩
   ·simp at e9
   ·simp only[Value.slice.injEq,Option.some.injEq] at e9
    rw[e9.1]
    have h10:=Za HV5.out (b:=g9) (by rw[e9.1];rfl)
    rw[h10]
    exact Z1x
  ·rintro e X3 hp
   unfold TJ at hp
   rcases hp with ⟨-,rfl,fb,D3,hfb,ht3⟩|⟨h,-⟩
   ·have HT3:=Jh (And.intro hfb (HT2.out.turn ht3))
    have hft:∀ i,w.heap.size≤i→i<X2.heap.size→X3.heap[i]?=X2.heap[i]?:=fun i h1 h2=>ht3.ext.block i h2 (fun hf=>by have:=(HH.out.1.foot hf).2.1;omega)
    have hzX:W0.heap.size<X.heap.size:=(Array.getElem?_eq_some_iff.1 HX.out.2.2).1
    have hzX2:=HB2.out.size
    have hz:=HZ.out.1
    have hr3:X3.heap[w.heap.size]?=some (.cells #[.int .i64 0] 25 (0,0)):=by
     rw[hft _ (Nat.le_refl _) (by omega),HB2.out.block _ (by omega),HX.out.2.1.block _ (by omega) (by omega)]
     exact HW0.out.2.1
    have hk3:X3.heap[W0.heap.size]?=some (.deferred (some [])):=by
     rw[hft _ (by omega) (by omega),HB2.out.block _ (by omega)]
     exact HX.out.2.2
    have hr3c:=cell_of_one hr3
    have hr3f:=free_of_one hr3
    have HR3:=Jh (And.intro hr3 hk3)
    have HS3:=Jh (And.intro ht3.ext.size (And.intro ht3.foot hzX))
    have c1:=HT3.out.2.log.b.c1
    rw[HVO.out] at c1
    have c2:=HT3.out.2.log.b.c2
    have f2:X3.frozen? ⟨lb,2,none⟩=false:=Joins.unfrozen_of_block HT3.out.2.log.b 2
    have hne:lb≠w.heap.size:=by omega
    have hne':w.heap.size≠lb:=by omega
    clear hfb ht3 hft hr3 hk3 hzX hzX2 hz hcl0 hcl1
    gi_wp2
    have hz:=HZ.out.1
    have hzX:=HS3.out.2.2
    have hzX2:=HB2.out.size
    have hs3:=HS3.out.1
    have hT4:=HT3.out.2.set2 (L.length:Int)
    have hr4:(X3.setCell ⟨lb,2,none⟩ (.int .i64 (L.length:Int))).heap[w.heap.size]?=some (.cells #[.int .i64 0] 25 (0,0)):=(((Ext.refl (·=lb) X3).setCell (p:=⟨lb,2,none⟩) (.inr rfl) _).block _ (by omega) hne').trans HR3.out.1
    have hk4:(X3.setCell ⟨lb,2,none⟩ (.int .i64 (L.length:Int))).heap[W0.heap.size]?=some (.deferred (some [])):=(((Ext.refl (·=lb) X3).setCell (p:=⟨lb,2,none⟩) (.inr rfl) _).block _ (by omega) (show ¬ W0.heap.size=lb by omega)).trans HR3.out.2
    have hz4:(X3.setCell ⟨lb,2,none⟩ (.int .i64 (L.length:Int))).heap.size=X3.heap.size:=by simp
    generalize X3.setCell ⟨lb,2,none⟩ (.int .i64 (L.length:Int))=X4 at hT4 hr4 hk4 hz4 ⊢
    have hx5:Ext (·=w.heap.size) X4 (X4.setCell ⟨w.heap.size,0,none⟩ (.int .i64 0)):=(Ext.refl (·=w.heap.size) X4).setCell (p:=⟨w.heap.size,0,none⟩) (.inr rfl) _
    have hr5:=one_setCell (u:=.int .i64 0) hr4
    have hk5:=(hx5.block W0.heap.size (by omega) (show ¬ W0.heap.size=w.heap.size by omega)).trans hk4
    generalize X4.setCell ⟨w.heap.size,0,none⟩ (.int .i64 0)=X5 at hx5 hr5 hk5 ⊢
    have hx6:Ext (·=W0.heap.size) X5 (X5.putObj W0.heap.size (.deferred none)):=YD _ _ _
    have hr6:=(hx6.block w.heap.size (by have:=hx5.size;omega) (show ¬ w.heap.size=W0.heap.size by omega)).trans hr5
    rw[show b+3=W0.heap.size by omega]
    refine ⟨by simp,.inl ⟨_,_,rfl,run_takeDeferred hk5,?_⟩⟩
    have hc6:=cell_of_one hr6
    generalize X5.putObj W0.heap.size (.deferred none)=X6 at hx6 hr6 hc6 ⊢
    refine ⟨.int .i64 0,by rw[WQ rfl];go_simp,rfl,fb,D3,HT3.out.1,?_⟩
    refine hT4.off (S:=fun i=>i=w.heap.size∨i=W0.heap.size) ((hx5.mono (fun i _ h=>.inl h)).andThen (hx6.mono (fun i _ h=>.inr h)) (fun i _ h=>h)) (fun i hi hs=>?_) (fun i hi hs=>?_) (fun hs=>by rcases hs with hs|hs <;> omega) (fun i hi hs=>?_) (fun i hs=>by rcases hs with hs|hs <;> omega)
    ·rcases HS3.out.2.1 i hi with hf|hf
     ·have:=(HH.out.1.foot hf).2.1
      rcases hs with hs|hs <;> omega
     ·rcases hs with hs|hs <;> omega
    ·rcases hs with hs|hs
     ·subst hs;simp[ZX,hr4] at hi
     ·subst hs;simp[ZX,hk4] at hi
    ·have:=(HH.out.2.2.1.o.blk i hi).2
     rcases hs with hs|hs <;> omega
   ·have:=HH.out.2.2.2.2.2
    omega
def Vm:OpD:=⟨⟨1,0⟩,0,0,0,0,0,0,0,0,1,⟨0,0⟩,2,97,⟨0,0⟩,ZE,ZE,ZE,⟨0,0⟩,false,⟨0,0⟩,false⟩
theorem R6:Vm.right=true:=by kernel_rfl
theorem Z1F:Vm.wf:=by
 refine ⟨⟨by decide,by decide,by decide⟩,fun c hc=>?_⟩
 unfold fld Vm
 split <;> decide
theorem Z1J (n:Nat):1≤(Z6 n).length:=List.length_pos_iff.2 (VE n)
theorem Z0j (x:Int) (l:List Int):2≤(Zc (x :: l)).length:=by
 rw[Zc,List.length_append,List.length_append]
 have:=Z1J (Z9 x l+1)
 have:=Z1J (YG x)
 omega
theorem Z0N (o:OpD) (l:List OpD):∀ n,2*n≤(Yc (o :: l) n).length
 | 0=>by omega
 | n+1=>by
  have ih:=Z0N o l n
  rw[Vs,List.length_append]
  have:2≤(Vo (o :: l) n).length:=by
   unfold Vo
   split
   ·exact Z0j _ _
   ·exact Z0j _ _
  omega
theorem Z55:30<(XM [Vm]).length∧∃ r,XM [Vm]=1 :: r:=by
 have h:=Z0N Vm [] 21
 rw[SK]
 have e:Z6 ([Vm]:List OpD).length=[1]:=by
  rw[XC (by decide)]
  rfl
 rw[e]
 refine ⟨?_,_,rfl⟩
 rw[List.length_append,List.length_append]
 omega
def TL (n:Int):OpD:=⟨⟨n,0⟩,0,0,0,0,0,0,0,0,1,⟨0,0⟩,2,97,⟨0,0⟩,ZE,ZE,ZE,⟨0,0⟩,false,⟨0,0⟩,false⟩
theorem Z5W (n:Int) (w:World):Calls Tryz.prog 44 #[.int .i64 n] w fun e w'=>e=.returned (TL n).val∧Below w.heap.size w w':=by
 have hst:=Vh (P:=Tryz.prog) Qd (W:=w) (z:=Xy.cells.toArray) (cs:=(TL n).cells) rfl (OpD.len (TL n)) (OpD.one (TL n))
 have hr:=(OB.new w (TL n)).whole
 have HS:=Lib.hid hst
 have HR:=Lib.hid hr
 have HB:Hid (Below w.heap.size w (w.alloc (.cells (TL n).cells.toArray 68))):=Jh ((Below.refl _ _).alloc (Nat.le_refl _) _)
 clear hst hr
 unfold OpD.val
 go_enter Tryz.func44,Tryz.ntmps44
 go_wp2_with (refine ZL (T:=68) (v:=.agg (OpD.cells (TL n)).toArray) rfl rfl rfl rfl HS.out ?_)
 refine bodyPost_ret (v:=.agg (TL n).cells.toArray) (by rw[WQ rfl];first|exact HR.out|(have hr:=HR.out;go_simp;exact hr)) rfl ?_
 exact ⟨rfl,HB.out⟩
theorem Z0P (x:OpD) (W:World):(Instr.buildSlice 24 1 #[(0,x.val)]).run Tryz.prog W=.ok (.slice (some ⟨W.heap.size,0,none⟩) 1 1) (W.alloc (.cells x.cells.toArray 68)):=by kernel_rfl
theorem SF:U2.Small 0:=⟨by decide,by decide,by decide,by decide,fun f hf=>(by cases hf),by decide⟩
theorem Z6U:Xb U2.files:=⟨List.nodup_nil,fun n f h=>(by cases h)⟩
theorem Z68 {A:Z2} (hno:Z5 A.files Zx=none) (hn:(A.files.map (·.1)).Nodup) (hl:A.files.length≤7):Yd (rmA A) Zx=0:=by
 have h1:Z5 (rmA A).files Zx=none:=by
  unfold rmA
  split
  ·exact hno
  ·show Z5 (ZA ⟨0,⟨#[]⟩,Zm,none⟩ A.files) Zx=none
   rw[YC _ _ hn]
   dsimp only
   split
   ·rfl
   ·exact hno
 have h2:=QQ A
 unfold Yd
 rw[Wh,h1]
 simp
 omega
theorem RN {A:Z2} {N fb:Nat} {bs:List UInt8} (hs:A.Small N) (hfl:A.files.length≤7) (hn:(A.files.map (·.1)).Nodup) (hf:fb∉A.ids) (hb:bs.length≤1048576):(Wo fb bs A).Small (N+7):=by
 have h1:=hs.rm
 have h2:(an1 fb A).Small (N+2):=h1.make (Sy hn hfl) (by rw[WF];exact hf)
 have h3:=h2.app (XB fb A) (bs:=bs) (by rw[Z19];simp[Zu];omega)
 have h4:=h3.sync (x:=Zm) (f:=fb) (XB fb A)
 exact (h4.syn_.step ⟨0,Zx,Zm,some fb⟩).syn_
theorem VZ.small {A A':Z2} {L:List OpD} {N:Nat} (h:VZ A A' L) (hs:A.Small N) (hfl:A.files.length≤7) (hi:A.Inj) (hsz:∀ f∈A.ids,Zu (A.fs f)≤1048576):A'.Small (N+8):=by
 rcases h with ⟨hno,rfl,fb,hf,rfl⟩|⟨f,hg,rfl,⟨hc,fb,hf,rfl⟩|⟨hc,hn,rfl⟩⟩
 ·exact ((hs.rm.make (Z68 hno hi.nd hfl) (by rw[WF];exact hf)).syn_).mono (by omega)
 ·refine (RN hs hfl hi.nd hf ?_).mono (by omega)
  have:=hsz f (hi.ids _ _ hg)
  rw[List.length_take,Vr]
  omega
 ·exact ((hs.sync hg).syn_).mono (by omega)
theorem Z79:TL 1=Vm:=rfl
theorem Z1r:ZR [Vm]:=⟨by simp,by decide,fun x hx=>by rw[List.mem_singleton.1 hx];exact ⟨R6,Z1F⟩,by have:=Sj (l:=[Vm]) (by decide) (fun x hx=>by rw[List.mem_singleton.1 hx];exact R6);simp at this;omega⟩
theorem Z2G {A:Z2} {f:Nat} {O:OpD} (h:30<(XM [O]).length) (hs:Y7 A f ([]++([]++[[O]])) []):40<(Zf (A.fs f)).length:=by
 have e:Zb (([]++([]++[[O]]))++[])=ZI [O]:=by simp[Zb]
 rw[hs.pcs.bytes,e,Xl]
 omega
theorem Z3E (w:World) (hg:YK w):Calls Tryz.prog 27 #[] w fun e w'=>e=.returned (.bool true)∧Below w.heap.size w w':=by
 have h0:0<w.heap.size:=Zh hg
 go_enter Tryz.func27,Tryz.ntmps27
 go_wp2_with fail
 refine (QM _ (Nat.le_refl _)).mono ?_
 rintro e w1 ⟨D,rfl,hd,hb,-⟩
 have HD:=Jh (And.intro hd (And.intro hb (hg.below hb)))
 clear hd hb hg
 go_wp2_with fail
 refine (UL HD.out.1 HD.out.2.1.size SF (by omega) (by decide) HD.out.2.2 h0).mono ?_
 rintro e w2 hp
 unfold Sm at hp
 obtain ⟨lb,D2,A2,vo,L,rfl,hop,ht,hl⟩:=hp
 have HO:=Lib.hid hop
 have hi0:=Z1n
 obtain ⟨f,ld,hst,hflat,hld,-⟩:=hop.steady Z6j (by decide) Z1n Z6U
 have hld0:=hld rfl
 subst hld0
 obtain rfl:L=[]:=hflat.symm
 have HS:=Lib.hid hst
 have S2:=Jh (hop.small SF (by decide) Z1n (fun f hf=>(by cases hf)))
 have hg2:=ht.errTy HD.out.1 h0 HD.out.2.2
 have z2:=Nat.le_trans HD.out.2.1.size ht.ext.size
 have HT:=Jh (And.intro ht (And.intro hl hg2))
 clear hop ht hl hi0 hst hflat hld hg2
 go_wp2_with fail
 refine (Z5W 1 _).mono ?_
 rintro e w3 ⟨rfl,hb3⟩
 rw[Z79]
 obtain ⟨O,hO⟩:∃ O,O=Vm:=⟨_,rfl⟩
 have HO1:Hid (O.wf∧ZR [O]∧30<(XM [O]).length∧(XM [O]).length≤65536):=Jh (by rw[hO];exact ⟨Z1F,Z1r,Z55.1,Z1r.2.2.2⟩)
 rw[←hO]
 clear hO
 have hb4:Below w3.heap.size w3 (w3.alloc (.cells O.cells.toArray 68)):=(Below.refl _ _).alloc (Nat.le_refl _) _
 have hs4:Z0 OpD.cells 26 (w3.alloc (.cells O.cells.toArray 68)) (.slice (some ⟨w3.heap.size,0,none⟩) 1 1) [O]:=Z0.one O 68
 have T4:=Jh (Zd.below HT.out.1.is_ (hb3.trans (hb4.mono hb3.size)))
 have L4:=Jh (HT.out.2.1.below (hb3.trans (hb4.mono hb3.size)))
 have G4:=Jh (HT.out.2.2.below (hb3.trans (hb4.mono hb3.size)))
 have z4:w.heap.size≤(w3.alloc (.cells O.cells.toArray 68)).heap.size:=Nat.le_trans z2 (Nat.le_trans hb3.size hb4.size)
 have hlt:∀ b,(XR D2 A2 b∨b=lb∨vo.ownBlock=some b)→b<w3.heap.size:=fun b hb=>by
  rcases hb with hb|rfl|hb
  ·exact Nat.lt_of_lt_of_le (HT.out.1.is_.foot hb).2.1 hb3.size
  ·exact Nat.lt_of_lt_of_le HT.out.2.1.b.lt hb3.size
  ·exact Nat.lt_of_lt_of_le (HT.out.2.1.o.blk b hb).2 hb3.size
 have HLT:=Lib.hid hlt
 have H4:=Lib.hid hs4
 obtain ⟨w4,hw4⟩:=Je (w3.alloc (.cells O.cells.toArray 68))
 rw[hw4] at T4 L4 G4 z4 H4
 have hsl:=Z0P O w3
 rw[hw4] at hsl
 have HSL:=Lib.hid hsl
 clear hb4 hs4 hb3 hlt hw4 hsl
 go_wp2_with ((with_reducible_and_instances refine SS (o:=⟨some 23,_,_,_,_,_⟩) (x0:=.tmp 22) ?_ ?_ ?_ HSL.out ?_);rfl;rfl;rfl)
 refine (R8 T4.out.is_ z4 (L4.out.mono HD.out.2.1.size) S2.out (by omega) (by simp) G4.out h0 _ [O] H4.out (fun _ b o n cap e=>?_) (fun x hx=>by rw[List.mem_singleton.1 hx];exact HO1.out.1) (by simp)).mono ?_
 ·simp only[Value.slice.injEq,Option.some.injEq,Addr.mk.injEq] at e
  intro hb
  have:=HLT.out b hb
  omega
 rintro e w5 hp
 unfold Rr at hp
 have hp2:∃ D5 vo5,e=.returned (.int .i64 0)∧LT w.heap.size w4 D2 A2 lb vo w5 D5 (ZU f (ZI [O]) A2) vo5 [O] 0:=by
  rcases hp with ⟨n,rfl,hc,_⟩|⟨_,g,D5,vo5,hg,_,rfl,hlt⟩
  ·exfalso
   rcases hc with ⟨_,h|h⟩|⟨_,_,_,x,hx,h⟩|⟨_,h⟩|⟨_,_,h⟩|⟨_,_,g,hg,h⟩
   ·cases h
   ·simp at h
   ·rw[List.mem_singleton.1 hx,(HO1.out.2.1.2.2.1 O (by simp)).1] at h
    cases h
   ·have:=HO1.out.2.2.2;omega
   ·rw[HS.out.lg] at h;cases h
   ·rw[HS.out.lg] at hg
    cases hg
    have h1:=HS.out.pcs.bytes
    have h2:=Vr (A2.fs f)
    rw[h1] at h2
    have h3:=Xl [O]
    have:=HO1.out.2.2.2
    simp[Zb] at h2
    omega
  ·rw[HS.out.lg] at hg
   cases hg
   exact ⟨D5,vo5,rfl,hlt⟩
 obtain ⟨D5,vo5,rfl,hlt⟩:=hp2
 have T5:=Lib.hid hlt
 have S5:=Jh (HS.out.app HO1.out.2.1)
 have SM5:=Jh (S2.out.app (bs:=ZI [O]) HS.out.lg (by
  have h1:=HS.out.pcs.bytes
  have h2:=Vr (A2.fs f)
  rw[h1] at h2
  have h3:=Xl [O]
  have:=HO1.out.2.2.2
  simp[Zb] at h2
  omega))
 clear hp hlt
 go_wp2_with fail
 refine (Z0D T5.out.disk T5.out.log SM5.out (by omega)).mono ?_
 rintro e w6 (⟨hno,_⟩|⟨g,hg,rfl,ht6⟩)
 ·rw[S5.out.lg] at hno;cases hno
 rw[S5.out.lg] at hg
 cases hg
 have T6:=Jh (T5.out.trans ht6)
 have S6:=Lib.hid S5.out.sync
 have SM6:=Jh (SM5.out.sync (x:=Zx) (f:=f) S5.out.lg)
 clear ht6
 go_wp2_with fail
 refine (Ua T6.out.log (by simp)).mono ?_
 rintro e w7 ⟨v7,rfl,ho7,hb7⟩
 have T7:=Jh (T6.out.below hb7)
 obtain ⟨a7,c7,rfl,-,-,-⟩:=ho7.slice OpD.len
 clear ho7 hb7
 go_wp2_with fail
 rw[show D.pb=D5.pb from (T7.out.pb.trans HT.out.1.pb).symm]
 refine (Z1M T7.out.disk Zx SM6.out (by omega)).mono ?_
 rintro e w8 hp
 unfold Rl at hp
 rcases hp with ⟨hno,_⟩|⟨g,v8,hg,rfl,ho8,hb8⟩
 ·rw[S6.out.lg] at hno;cases hno
 rw[S6.out.lg] at hg
 cases hg
 have T8:=Jh (T7.out.below hb8)
 obtain ⟨a8,c8,hv8,-,-,-⟩:=ho8.slice Z7
 have hlen:=Z2G HO1.out.2.2.1 S6.out
 obtain ⟨q,hq⟩:=Je ((Zf ((Zt f (ZU f (ZI [O]) A2)).fs f)).length)
 rw[hq] at hv8 hlen
 subst hv8
 have hlen2:(40:Int)<(q:Int):=by omega
 clear ho8 hb8 hq hlen
 simp only[List.length_singleton]
 go_wp2_with fail
 refine (UN T8.out.log).mono ?_
 rintro e w9 ⟨rfl,rfl⟩
 simp only[List.length_singleton]
 go_wp2_with fail
 go_ret
 refine ⟨rfl,?_⟩
 exact T8.out.frame T4.out.is_ (L4.out.mono HD.out.2.1.size) ((HT.out.1.trans T4.out).frame HD.out.1 HD.out.2.1 (Nat.le_refl _) HD.out.2.1.size) (Nat.le_refl _) z4
theorem WB.of {ld lu:List (List OpD)} {A:Z2} {f:Nat} (h:Y7 A f ld lu):WB (ld++lu).flatten :=
 Z4n (fun l hl=>by
  rcases List.mem_append.1 hl with hl|hl
  ·exact h.pcs.gd l hl
  ·exact h.pcs.gu l hl)
structure WrI (base:Nat) (w:World) (D:DSh) (A:Z2) (lb:Nat) (vo:Value) (N:Nat) (wx:World) (D1:DSh) (A1:Z2) (vo1:Value) (f:Nat) (ld lu:List (List OpD)):Prop where
 lt:LT base w D A lb vo wx D1 A1 vo1 (ld++lu).flatten (ld.flatten.length:Nat)
 st:Y7 A1 f ld lu
 sm:A1.Small N
 err:YK wx
structure WrM (base:Nat) (w:World) (D:DSh) (A:Z2) (lb:Nat) (vo:Value) (n:Nat) (wx:World) (D1:DSh) (A1:Z2) (vo1:Value) (f:Nat) (ld lu:List (List OpD)) (ms:List Mo) (k:Nat):Prop where
 i:WrI base w D A lb vo n wx D1 A1 vo1 f ld lu
 way:Way ms A1 (ld++lu).flatten ld.flatten.length
 bnd:Bnd ms ld lu
 len:(ld++lu).flatten.length≤200*k
section
variable {base:Nat} {w:World} {D:DSh} {A:Z2} {lb:Nat} {vo:Value} {n:Nat} {wr w':World} {D1 D2:DSh} {A1:Z2} {vo1 vo2:Value} {f:Nat} {ld lu:List (List OpD)} {ms:List Mo} {k:Nat}
theorem WrM.below (h:WrM base w D A lb vo n wr D1 A1 vo1 f ld lu ms k) (hb:Below wr.heap.size wr w'):WrM base w D A lb vo n w' D1 A1 vo1 f ld lu ms k :=
 ⟨⟨h.i.lt.below hb,h.i.st,h.i.sm,h.i.err.below hb⟩,h.way,h.bnd,h.len⟩
theorem WrM.same (hm:WrM base w D A lb vo n wr D1 A1 vo1 f ld lu ms k) (h0:0<base) (lt:LT base wr D1 A1 lb vo1 w' D1 A1 vo1 (ld++lu).flatten (ld.flatten.length:Nat)) :
  WrM base w D A lb vo (n+8) w' D1 A1 vo1 f ld lu (ms++[⟨A1.now,(ld++lu).flatten.length,ld.flatten.length⟩]) (k+1) :=
 ⟨⟨hm.i.lt.trans lt,hm.i.st,hm.i.sm.mono (by omega),lt.errTy hm.i.lt.disk hm.i.lt.log h0 hm.i.err⟩,hm.way.same hm.i.st hm.bnd,hm.bnd.more _,by have:=hm.len;omega⟩
theorem WrM.app {l:List OpD} (hm:WrM base w D A lb vo n wr D1 A1 vo1 f ld lu ms k) (h0:0<base) (hl:ZR l) (hs:Zu (A1.fs f)+(ZI l).length≤1048576) (lt:LT base wr D1 A1 lb vo1 w' D2 (ZU f (ZI l) A1) vo2 ((ld++lu).flatten++l) (ld.flatten.length:Nat)) :
  WrM base w D A lb vo (n+8) w' D2 (ZU f (ZI l) A1) vo2 f ld (lu++[l]) (ms++[⟨(ZU f (ZI l) A1).now,(ld++(lu++[l])).flatten.length,ld.flatten.length⟩]) (k+1):=by
 have e:(ld++(lu++[l])).flatten=(ld++lu).flatten++l:=by simp
 refine ⟨⟨?_,hm.i.st.app hl,(hm.i.sm.app hm.i.st.lg hs).mono (by omega),lt.errTy hm.i.lt.disk hm.i.lt.log h0 hm.i.err⟩,hm.way.app hm.i.st hm.bnd hl,hm.bnd.app rfl,?_⟩
 ·rw[e];exact hm.i.lt.trans lt
 ·rw[e,List.length_append];have:=hm.len;have:=hl.2.1;omega
theorem WrM.sync (hm:WrM base w D A lb vo n wr D1 A1 vo1 f ld lu ms k) (h0:0<base) (lt:LT base wr D1 A1 lb vo1 w' D2 (Zt f A1) vo1 (ld++lu).flatten ((ld++lu).flatten.length:Nat)) :
  WrM base w D A lb vo (n+8) w' D2 (Zt f A1) vo1 f (ld++lu) [] (ms++[⟨(Zt f A1).now,(ld++lu++[]).flatten.length,(ld++lu).flatten.length⟩]) (k+1):=by
 refine ⟨⟨?_,hm.i.st.sync,(hm.i.sm.sync hm.i.st.lg).mono (by omega),lt.errTy hm.i.lt.disk hm.i.lt.log h0 hm.i.err⟩,?_,Bnd.all (by rw[List.append_nil]),?_⟩
 ·rw[List.append_nil];exact hm.i.lt.trans lt
 ·rw[List.append_nil];exact hm.way.sync hm.i.st hm.bnd
 ·rw[List.append_nil];have:=hm.len;omega
theorem WrM.comp {fb:Nat} (hm:WrM base w D A lb vo n wr D1 A1 vo1 f ld lu ms k) (h0:0<base) (hf:fb∉A1.ids) (hb:(Zb (YL (ld++lu).flatten)).length≤1048576) (lt:LT base wr D1 A1 lb vo1 w' D2 (Wo fb (Zb (YL (ld++lu).flatten)) A1) vo1 (ld++lu).flatten ((ld++lu).flatten.length:Nat)) :
  WrM base w D A lb vo (n+8) w' D2 (Wo fb (Zb (YL (ld++lu).flatten)) A1) vo1 fb (YL (ld++lu).flatten) [] (ms++[⟨(Wo fb (Zb (YL (ld++lu).flatten)) A1).now,(YL (ld++lu).flatten++[]).flatten.length,(YL (ld++lu).flatten).flatten.length⟩]) (k+1):=by
 have hgl:=WB.of hm.i.st
 refine ⟨⟨?_,UQ hm.i.st.hist hm.i.st.now hm.i.st.inj hm.i.st.two hf (U3 hgl),(RN hm.i.sm (by have:=hm.i.st.two.len;omega) hm.i.st.two.1 hf hb).mono (by omega),lt.errTy hm.i.lt.disk hm.i.lt.log h0 hm.i.err⟩,?_,Bnd.all ?_,?_⟩
 ·rw[List.append_nil,WG];exact hm.i.lt.trans lt
 ·rw[List.append_nil,WG];exact hm.way.comp hm.i.st hm.bnd hf hgl
 ·rw[List.append_nil]
 ·rw[List.append_nil,WG];have:=hm.len;omega
theorem LT.moments {wr w':World} {B:Nat} {v:Value} {D D':DSh} {A A':Z2} {vo vo':Value} {L L':List OpD} {sy sy':Int} (h:LT base wr D A lb vo w' D' A' vo' L' sy') (hd:Z4 base wr D A) (hl:Yr base wr D.pb lb vo L sy) (ho:Own Mo.cells 3 86 B wr v ms):Own Mo.cells 3 86 B w' v ms :=
 ho.ext h.ext (fun b hb e=>by
  rcases e with e|rfl|e
  ·exact (by unfold Wg;decide:¬ Wg (some 86)) (by rw[←Za ho hb];exact hd.dtag e)
  ·exact Zz (Za ho hb) hl.b.tag (by decide) rfl
  ·exact Zz (Za ho hb) (Za hl.o e) (by decide) rfl)
theorem Z0.low {α:Type} {ea:α→List Value} {q:Nat} {w w':World} {v:Value} {l:List α} {base:Nat} (h:Z0 ea q w v l) (hb:Below base w w') (hlo:l≠[]→∀ b o n cap,v=.slice (some ⟨b,o,none⟩) n cap→b<base):Z0 ea q w' v l:=by
 obtain ⟨a,c,e,h1,h2,h3⟩:=h
 refine ⟨a,c,e,h1,h2,fun hne=>?_⟩
 obtain ⟨b,o,e2,h4⟩:=h3 hne
 exact ⟨b,o,e2,fun i x hi j u hj=>XN hb (h4 i x hi j u hj) (hlo hne b o l.length c (by rw[e,e2]))⟩
theorem Z0.lt9 {α:Type} {ea:α→List Value} {q:Nat} {w:World} {l:List α} {b o n cap:Nat} (h:Z0 ea q w (.slice (some ⟨b,o,none⟩) n cap) l) (hq:∀ x,0<(ea x).length) (hne:l≠[]):b<w.heap.size:=by
 obtain ⟨a,c,e,h1,h2,h3⟩:=h
 obtain ⟨b',o',e2,h4⟩:=h3 hne
 cases e
 cases e2
 cases l with
 | nil=>exact absurd rfl hne
 | cons x l =>
  have hx:=hq x
  exact Zh (h4 0 x rfl 0 (ea x)[0] (List.getElem?_eq_getElem hx))
theorem Xi.In.below {x:Xi} (h:x.In wr) (hb:Below wr.heap.size wr w'):x.In w':=⟨h.l.below hb,h.wf,h.b.below hb,⟨h.c.sl.below hb,h.c.a,h.c.n,h.c.t⟩⟩
end
def Uz (base:Nat) (w:World) (D:DSh) (A:Z2) (lb:Nat) (vo:Value) (N:Nat) (e:Ending) (w':World):Prop :=
 ∃ v ms D' A' vo' f ld lu,e=.returned v∧Own Mo.cells 3 86 w.heap.size w' v ms∧WrM base w D A lb vo (N+192) w' D' A' vo' f ld lu ms 24∧ms.length≤25
theorem Z6o:(Tryz.prog.info? 86).map (fun i=>(i.zero,i.size,i.bytes))=some (some (.agg #[.int .i64 0,.int .i64 0,.int .i64 0]),3,24):=by kernel_rfl
theorem Own.one9 {α:Type} {ea:α→List Value} {k:Nat} (hk:∀ x,(ea x).length=k) (x:α) (e:TypeId) {base:Nat} {w:World} (hb:base≤w.heap.size):Own ea k e base (w.alloc (.cells (ea x).toArray e)) (.slice (some ⟨w.heap.size,0,none⟩) 1 1) [x] :=
 ⟨by simp[hk],.inr ⟨w.heap.size,1,(ea x).toArray,rfl,hb,heap_alloc_new w _,Nat.le_refl _,by unfold maxLen;omega,by simp[hk],by simp[hk];exact List.take_of_length_le (by rw[hk];omega)⟩⟩
theorem Z5g {base:Nat} {w:World} {D:DSh} {A:Z2} {lb:Nat} {vo:Value} {f:Nat} (hd:Z4 base w D A) (hbw:base≤w.heap.size) (hl:Yr base w D.pb lb vo [] (0:Nat)) (hst:Y7 A f [] []) {N:Nat} (hsm:A.Small N) (hN:N≤100000) (hg:YK w) (h0:0<base)
  (v:Value) (l:List Xi) (hv:Z0 Xi.cells 7 w v l) (hin:∀ x∈l,x.In w) (hlo:∀ x∈l,x.ls≠[]→∀ b o n cap,x.l.val=.slice (some ⟨b,o,none⟩) n cap→b<base) (hvb:∀ b o n cap,l≠[]→v=.slice (some ⟨b,o,none⟩) n cap→b<base) :
  Calls Tryz.prog 45 #[.pointer (some ⟨D.pb,0,none⟩),.pointer (some ⟨lb,0,none⟩),v] w fun e w'=>Uz base w D A lb vo N e w':=by
 obtain ⟨xa,xc,rfl,hxc,hxm,-⟩:=id hv
 unfold maxLen at hxm
 obtain ⟨q,hq⟩:=Je (l.length)
 have HQ:=Lib.hid hq
 rw[hq] at hv hxc ⊢
 have HH:=Jh (And.intro hd (And.intro hl (And.intro hst (And.intro hsm (And.intro hg (And.intro hv (And.intro hin (And.intro hlo hvb))))))))
 have hAn:=hsm.now
 have hAn0:=hsm.now0
 clear hd hl hst hsm hg hv hin hlo hq hvb
 go_enter Tryz.func45,Tryz.ntmps45
 go_wp2_with fail
 refine (UO HH.out.1).mono ?_
 rintro e w1 ⟨rfl,e1⟩
 have e1':=e1.symm
 subst e1'
 clear e1
 have HA:Hid (Own Mo.cells 3 86 w.heap.size (w.alloc (.cells #[.int .i64 A.now,.int .i64 0,.int .i64 0] 86)) (.slice (some ⟨w.heap.size,0,none⟩) 1 1) [⟨A.now,0,0⟩]):=Jh (Own.one9 Mo.len ⟨A.now,0,0⟩ _ (Nat.le_refl _))
 have hbA:Below w.heap.size w (w.alloc (.cells #[.int .i64 A.now,.int .i64 0,.int .i64 0] 86)):=(Below.refl _ _).alloc (Nat.le_refl _) _
 have HM0:Hid (WrM base w D A lb vo N (w.alloc (.cells #[.int .i64 A.now,.int .i64 0,.int .i64 0] 86)) D A vo f [] [] [⟨A.now,0,0⟩] 0):=Lib.hid ⟨⟨(LT.refl HH.out.1 HH.out.2.1).below hbA,HH.out.2.2.1,HH.out.2.2.2.1,HH.out.2.2.2.2.1.below hbA⟩,Way.one (HH.out.2.2.1.st (fun _ _=>trivial)).e,fun k hk=>⟨⟨A.now,0,0⟩,by simp,by simp at hk;subst hk;rfl⟩,Nat.le_refl _⟩
 clear hbA
 go_wp2_with fail
 go_loopg [7,8] 24 (fun g ov kv wx=>∃ (k:Nat) (so:Sl),g=24 - k∧ov=.slice so.a so.n so.cap∧kv=.int .i64 k∧k≤q∧k≤24 ∧
  Hid (∃ ms D1 A1 vo1 f1 ld lu,Own Mo.cells 3 86 w.heap.size wx so.val ms∧WrM base w D A lb vo (N+8*k) wx D1 A1 vo1 f1 ld lu ms k∧ms.length=k+1))
 case atStart=>exact ⟨0,⟨some ⟨w.heap.size,0,none⟩,1,1⟩,rfl,rfl,rfl,Nat.zero_le _,Nat.zero_le _,Lib.hid ⟨_,_,_,_,_,_,_,HA.out,HM0.out,rfl⟩⟩
 case round =>
  obtain ⟨k,so,hgg,rfl,rfl,hkq,hk24,HU⟩:=hrel
  have HG:=Lib.hid hgg
  clear hgg
  by_cases hk:k<q
  ·by_cases hk2:k<24
   ·have hk1:(k:Int)<(q:Int):=by omega
    have hk3:(k:Int)<24:=by omega
    obtain ⟨y,hy⟩:∃ y,l[k]?=some y:=⟨_,List.getElem?_eq_getElem (by rw[HQ.out];exact hk)⟩
    obtain ⟨ms,D1,A1,vo1,f1,ld,lu,ho,hm,hml⟩:=HU.out
    have hfr:Below base w wr:=hm.i.lt.frame HH.out.1 HH.out.2.1 (Below.refl _ _) (Nat.le_refl _) hbw
    have hq0:=HH.out.2.2.2.2.2.1
    rw[←HQ.out] at hq0
    have hsz:=hm.i.lt.ext.size
    have hcells:∃ sb o,xa=some ⟨sb,o,none⟩∧∀ j u,y.cells[j]?=some u→wr.cell? ⟨sb,o+k*7+j,none⟩=some u:=by
     obtain ⟨_,_,e1,_,_,hh⟩:=hq0
     obtain ⟨sb,o,e2,hcc⟩:=hh (fun e=>by rw[e] at hy;simp at hy)
     cases e1
     subst e2
     have hsb:sb<base:=HH.out.2.2.2.2.2.2.2.2 sb o _ _ (fun e=>by rw[e] at hy;simp at hy) rfl
     exact ⟨sb,o,rfl,fun j u hj=>by
      have h5:=hcc k y hy j u hj
      simp only[World.cell?] at h5 ⊢
      rw[hfr.block sb hsb]
      exact h5⟩
    obtain ⟨sb,o,rfl,hcc⟩:=hcells
    have q0:=hcc 0 _ rfl
    have q1:=hcc 1 _ rfl
    have q2:=hcc 2 _ rfl
    have q3:=hcc 3 _ rfl
    have q4:=hcc 4 _ rfl
    have q5:=hcc 5 _ rfl
    have q6:=hcc 6 _ rfl
    simp only[Nat.add_zero] at q0
    have HYI:=Jh (And.intro (HH.out.2.2.2.2.2.2.1 y (List.mem_of_getElem? hy)) (HH.out.2.2.2.2.2.2.2.1 y (List.mem_of_getElem? hy)))
    have HMS:=Jh (And.intro ho (And.intro hm (And.intro hml (And.intro hfr hsz))))
    clear hcc ho hm hml hfr hsz hq0 hy
    go_upto_block 2 with fail
    have hb2:Below wr.heap.size wr (wr.alloc (.cells #[.int .i64 y.kind,.slice y.l.a y.l.n y.l.cap,.slice y.b.a y.b.n y.b.cap,.int .i64 y.c.at_,.int .i64 y.c.names,.slice y.c.keep.a y.c.keep.n y.c.keep.cap,.int .i64 y.c.torn] 79)):=(Below.refl _ _).alloc (Nat.le_refl _) _
    have qo:=World.alloc_heap_new wr (.cells #[.int .i64 y.kind,.slice y.l.a y.l.n y.l.cap,.slice y.b.a y.b.n y.b.cap,.int .i64 y.c.at_,.int .i64 y.c.names,.slice y.c.keep.a y.c.keep.n y.c.keep.cap,.int .i64 y.c.torn] 79)
    generalize wr.alloc (.cells #[.int .i64 y.kind,.slice y.l.a y.l.n y.l.cap,.slice y.b.a y.b.n y.b.cap,.int .i64 y.c.at_,.int .i64 y.c.names,.slice y.c.keep.a y.c.keep.n y.c.keep.cap,.int .i64 y.c.torn] 79)=w2 at *
    have r0:=Joins.cell_of_block qo 0
    have r1:=Joins.cell_of_block qo 1
    simp only[List.getElem?_toArray,List.getElem?_cons_succ,List.getElem?_cons_zero] at r0 r1
    have HB2:=Lib.hid hb2
    clear q0 q1 q2 q3 q4 q5 q6 qo hb2
    generalize wr.heap.size=pw at r0 r1 ⊢
    go_cut [] from 28 to 47 (fun wx=>∃ D2 A2 vo2 f2 ld2 lu2,Hid (Own Mo.cells 3 86 w.heap.size wx so.val ms∧WrM base w D A lb vo (N+8*(k+1)) wx D2 A2 vo2 f2 ld2 lu2 (ms++[⟨A2.now,(ld2++lu2).flatten.length,ld2.flatten.length⟩]) (k+1)))
    case first =>
     have hm2:=HMS.out.2.1.below HB2.out
     have ho2:=HMS.out.1.below1 HB2.out
     have HM2:=Jh (And.intro hm2 ho2)
     have hb2:Below base w w2:=HMS.out.2.2.2.1.trans (HB2.out.mono (by have:=HMS.out.2.2.2.2;omega))
     have hyl:=HYI.out.1.l
     have hyn:y.l.n=y.ls.length:=by
      obtain ⟨_,_,e,_⟩:=hyl
      simp only[Value.slice.injEq] at e
      exact e.2.1
     have HYL:Hid (Z0 OpD.cells 26 w2 (.slice y.l.a y.l.n y.l.cap) y.ls):=Jh (hyl.low hb2 HYI.out.2)
     have HYN:=Lib.hid hyn
     have HLL:=Lib.hid hm2.len
     have z2:base≤w2.heap.size:=by have:=HMS.out.2.2.2.2;have:=HB2.out.size;omega
     clear hm2 ho2 hb2 hyl hyn
     by_cases k1:y.kind=1
     ·have k1b:(y.kind == 1)=true:=by simp[k1]
      clear k1
      by_cases hle:y.l.n≤210
      ·have hle2:(y.l.n:Int)≤210:=by omega
       have HLE:=Lib.hid hle
       clear hle
       go_wp2_with fail
       refine (R8 HM2.out.1.i.lt.disk z2 HM2.out.1.i.lt.log HM2.out.1.i.sm (by omega) (by have:=HLL.out;omega) HM2.out.1.i.err h0 _ y.ls HYL.out (fun hne b o n cap e hh=>?_) HYI.out.1.wf (by have:=HYN.out;have:=HLE.out;omega)).mono ?_
       ·have hlt:=HYI.out.2 hne b o n cap e
        rcases hh with hh|hh|hh
        ·have:=(HM2.out.1.i.lt.disk.foot hh).1;omega
        ·have:=HM2.out.1.i.lt.log.lo;omega
        ·have:=(HM2.out.1.i.lt.log.o.blk b hh).1;omega
       ·rintro e w3 hp
        unfold Rr at hp
        rcases hp with ⟨nn,rfl,-,hlt⟩|⟨hgd,ff,D3,vo3,hff,hsz3,rfl,hlt⟩
        ·have HX:=Jh (And.intro (hlt.moments HM2.out.1.i.lt.disk HM2.out.1.i.lt.log HM2.out.2) (HM2.out.1.same h0 hlt))
         clear hlt
         go_wp2_with fail
         go_meet
         case rel=>exact ⟨_,_,_,_,_,_,HX⟩
        ·rw[HM2.out.1.i.st.lg] at hff
         cases hff
         have HX:=Jh (And.intro (hlt.moments HM2.out.1.i.lt.disk HM2.out.1.i.lt.log HM2.out.2) (HM2.out.1.app h0 hgd hsz3 hlt))
         clear hlt hgd hsz3
         go_wp2_with fail
         go_meet
         case rel=>exact ⟨_,_,_,_,_,_,HX⟩
      ·have hle2:¬ (y.l.n:Int)≤210:=by omega
       have HX:=Jh (And.intro HM2.out.2 (HM2.out.1.same h0 (LT.refl HM2.out.1.i.lt.disk HM2.out.1.i.lt.log)))
       go_wp2_with fail
       go_meet
       case rel=>exact ⟨_,_,_,_,_,_,HX⟩
     ·have k1b:(y.kind == 1)=false:=by simpa using k1
      by_cases k2:y.kind=2
      ·have k2b:(y.kind == 2)=true:=by simp[k2]
       clear k1 k2
       go_wp2_with fail
       refine (Z0D HM2.out.1.i.lt.disk HM2.out.1.i.lt.log HM2.out.1.i.sm (by omega)).mono ?_
       rintro e w3 hp
       rcases hp with ⟨hno,-⟩|⟨ff,hff,rfl,hlt⟩
       ·rw[HM2.out.1.i.st.lg] at hno;cases hno
       ·rw[HM2.out.1.i.st.lg] at hff
        cases hff
        have HX:=Jh (And.intro (hlt.moments HM2.out.1.i.lt.disk HM2.out.1.i.lt.log HM2.out.2) (HM2.out.1.sync h0 hlt))
        clear hlt
        go_wp2_with fail
        go_meet
        case rel=>exact ⟨_,_,_,_,_,_,HX⟩
      ·have k2b:(y.kind == 2)=false:=by simpa using k2
       by_cases k3:y.kind=3
       ·have k3b:(y.kind == 3)=true:=by simp[k3]
        clear k1 k2 k3
        have HGL:=Jh (WB.of HM2.out.1.i.st)
        have HSZ:Hid ((Zb (YL (ld++lu).flatten)).length≤1048576):=Jh (by
         have h5:=Qo HGL.out
         have h6:=HLL.out
         unfold chN at h5
         omega)
        go_wp2_with fail
        refine (Z1X HM2.out.1.i.lt.disk z2 HM2.out.1.i.lt.log HM2.out.1.i.sm (by omega) (by have:=HM2.out.1.i.st.two.len;omega) (by have:=HLL.out;omega) HGL.out HSZ.out).mono ?_
        rintro e w3 hp
        unfold Z14 at hp
        obtain ⟨rfl,fb,D3,hfb,hlt⟩:=hp
        have HX:=Jh (And.intro (hlt.moments HM2.out.1.i.lt.disk HM2.out.1.i.lt.log HM2.out.2) (HM2.out.1.comp h0 hfb HSZ.out hlt))
        clear hlt hfb
        go_wp2_with fail
        go_meet
        case rel=>exact ⟨_,_,_,_,_,_,HX⟩
       ·have k3b:(y.kind == 3)=false:=by simpa using k3
        have HX:=Jh (And.intro HM2.out.2 (HM2.out.1.same h0 (LT.refl HM2.out.1.i.lt.disk HM2.out.1.i.lt.log)))
        clear k1 k2 k3
        go_wp2_with fail
        go_meet
        case rel=>exact ⟨_,_,_,_,_,_,HX⟩
    case rest =>
     obtain ⟨D2,A2,vo2,f2,ld2,lu2,HX⟩:=hcut
     have hch:=UO HX.out.2.i.lt.disk
     rw[HX.out.2.i.lt.pb] at hch
     have HCH:=Lib.hid hch
     have HLL:=Lib.hid HX.out.2.len
     have HML:=Lib.hid HMS.out.2.2.1
     have hzc:=HX.out.2.i.lt.ext.size
     obtain ⟨n2,hn2⟩:=Je ((ld2++lu2).flatten.length)
     obtain ⟨s2,hs2⟩:=Je (ld2.flatten.length)
     have HN2:=Jh (And.intro hn2 hs2)
     clear hn2 hs2
     clear hch
     go_wp2_with fail
     refine HCH.out.mono ?_
     rintro e w3 ⟨rfl,e3⟩
     have e3':=e3.symm
     subst e3'
     clear e3
     go_wp2_with fail
     refine (Ua HX.out.2.i.lt.log (by have:=HLL.out;omega)).mono ?_
     rintro e w4 ⟨v4,rfl,ho4,hb4⟩
     obtain ⟨a4,c4,hv4,-,-,-⟩:=ho4.slice OpD.len
     subst hv4
     rw[HN2.out.1]
     have HB4:=Lib.hid hb4
     clear ho4 hb4
     go_wp2_with fail
     refine (UN (HX.out.2.i.lt.log.below HB4.out)).mono ?_
     rintro e w5 ⟨rfl,e5⟩
     have e5':=e5.symm
     subst e5'
     clear e5
     rw[HN2.out.2]
     obtain ⟨i0,hi,hz0,hz1,hz2⟩:=info_parts Z6o
     obtain ⟨m,hm⟩:∃ m:Mo,m=⟨A2.now,n2,s2⟩:=⟨_,rfl⟩
     have hbm:Below w4.heap.size w4 (w4.alloc (.cells #[.int .i64 A2.now,.int .i64 n2,.int .i64 s2] 86)):=(Below.refl _ _).alloc (Nat.le_refl _) _
     have hone:Z0 Mo.cells 3 (w4.alloc (.cells #[.int .i64 A2.now,.int .i64 n2,.int .i64 s2] 86)) (.slice (some ⟨w4.heap.size,0,none⟩) 1 1) [m]:=by
      rw[hm]
      exact Z0.one (⟨A2.now,n2,s2⟩:Mo) 86
     have hbb:=HB4.out.trans (hbm.mono HB4.out.size)
     obtain ⟨v',w',hr,ho6,hx6⟩:=Y5 (P:=Tryz.prog) 72 72 i0 _ 24 Tryz.underlying72 hi hz0 hz1 hz2 rfl (by omega) Mo.len Mo.onec (HX.out.1.below1 hbb) hone (by have:=HML.out;unfold maxLen;simp;omega) (by have:=HML.out;simp;omega) (by have:=hbb.size;omega)
     obtain ⟨sv,hsv⟩:=ho6.slv
     subst hsv
     have HR:Hid ((Builtin.append_ #[72,72] 72 #[.slice so.a so.n so.cap,.slice (some ⟨w4.heap.size,0,none⟩) 1 1]).run Tryz.prog (w4.alloc (.cells #[.int .i64 A2.now,.int .i64 n2,.int .i64 s2] 86))=.ok (.slice sv.a sv.n sv.cap) w'):=Lib.hid hr
     have HN:Hid (Own Mo.cells 3 86 w.heap.size w' sv.val (ms++[m])∧WrM base w D A lb vo (N+8*(k+1)) w' D2 A2 vo2 f2 ld2 lu2 (ms++[m]) (k+1)∧(ms++[m]).length=k+1+1):=Jh (by
      have h7:=HX.out.2.below hbb
      rw[HN2.out.1,HN2.out.2,←hm] at h7
      have h8:=HX.out.1.below1 hbb
      refine ⟨ho6,⟨⟨h7.i.lt.off (S:=fun b=>so.val.ownBlock=some b) hx6 (fun b hb e=>?_) (fun b ht e=>?_) (fun e=>?_) (fun b hb e=>?_) (fun b e=>(h8.blk b e).1),h7.i.st,h7.i.sm,h7.i.err.extB hx6 (fun i e=>by have:=(h8.blk i e).1;omega)⟩,h7.way,h7.bnd,h7.len⟩,by rw[List.length_append,HML.out];rfl⟩
      ·exact (by unfold Wg;decide:¬ Wg (some 86)) (by rw[←Za h8 e];exact h7.i.lt.disk.dtag hb)
      ·rw[Za h8 e] at ht;revert ht;decide
      ·exact Zz (Za h8 e) h7.i.lt.log.b.tag (by decide) rfl
      ·exact Zz (Za h8 e) (Za h7.i.lt.log.o hb) (by decide) rfl)
     clear hi hz0 hz1 hz2 hbm hone hbb hr ho6 hx6 hm
     go_wp2_with (at_builtin;refine YT rfl _ _ _ rfl rfl rfl HR.out ?_)
     go_roundg (24 - (k+1))
     case measure=>rw[HG.out];omega
     case rel=>exact ⟨k+1,sv,rfl,rfl,rfl,by omega,by omega,Lib.hid ⟨_,_,_,_,_,_,_,HN.out⟩⟩
   ·obtain ⟨ms,D1,A1,vo1,f1,ld,lu,ho,hm,hml⟩:=HU.out
    have hk3:¬ (k:Int)<24:=by omega
    have hk1:(k:Int)<(q:Int):=by omega
    have HF:Hid (Uz base w D A lb vo N (.returned (.slice so.a so.n so.cap)) wr):=Lib.hid ⟨_,ms,D1,A1,vo1,f1,ld,lu,rfl,ho,⟨⟨hm.i.lt,hm.i.st,hm.i.sm.mono (by omega),hm.i.err⟩,hm.way,hm.bnd,by have:=hm.len;omega⟩,by omega⟩
    clear ho hm hml
    go_wp2_with fail
    go_ret
    exact HF.out
  ·obtain ⟨ms,D1,A1,vo1,f1,ld,lu,ho,hm,hml⟩:=HU.out
   have hk1:¬ (k:Int)<(q:Int):=by omega
   have HF:Hid (Uz base w D A lb vo N (.returned (.slice so.a so.n so.cap)) wr):=Lib.hid ⟨_,ms,D1,A1,vo1,f1,ld,lu,rfl,ho,⟨⟨hm.i.lt,hm.i.st,hm.i.sm.mono (by omega),hm.i.err⟩,hm.way,hm.bnd,by have:=hm.len;omega⟩,by omega⟩
   clear ho hm hml
   go_wp2_with fail
   go_ret
   exact HF.out
theorem Z6i {t n:Int} (h0:0≤t) (h1:t≤n):((Ya t (n+1).toNat:Nat):Int)=t:=by
 unfold Ya
 rw[if_neg (by omega),Int.toNat_of_nonneg (a:=n+1) (by omega),Int.emod_eq_of_lt h0 (by omega)]
 omega
theorem Z4g {t0:Int} {ms:List Mo} {A A':Z2} {L:List OpD} {sy:Nat} (I:Z73 t0 ms A L sy) {t nm torn:Int} {ks:List Bool} (h0:0≤t) (h1:t0≤t) (h2:t≤A.now) (hc:V6 A (Y3 A (Ya t (A.now+1).toNat) nm) (Ya t (A.now+1).toNat) ks torn A') (hnd:(A'.base.map (·.1)).Nodup) :
  ∃ fb k,Z5 A'.base Zx=some fb∧k≤L.length∧Yz ms t 0≤k∧k≤Y4 ms t 0∧(∃ m∈ms,m.o=k)∧(Xv (Zf (A'.fs fb))).flatten=L.take k∧Xb A'.base:=by
 obtain ⟨M,k1,k2,F,k3⟩:=I.at_ t h1 h2
 rw[Z6i h0 h2,←k1] at hc
 obtain ⟨fb,k,g1,g2,g3,g4,g5⟩:=k3.cut k2 hc hnd
 exact ⟨fb,k,g1,g2,g3.1,g3.2.1,g3.2.2,g4,g5⟩
theorem Z6v {B A':Z2} {M:List (ByteArray × Nat)} {at_ torn:Int} {ks:List Bool} (hc:V6 B M at_ ks torn A') (hfb:A'.files=A'.base) (h2:Xb A'.base) {fb:Nat} (hf:Z5 A'.base Zx=some fb) :
  St9 A' [fb] fb (Xv (Zf (A'.fs fb))).flatten (·=(Xv (Zf (A'.fs fb))).flatten.length)∧∀ p∈A'.fs fb,p.safe≠0:=by
 have hs:∀ p∈A'.fs fb,p.safe≠0:=fun p hp=>by
  obtain ⟨bs,e⟩:=hc.pc fb (hc.vals _ _ hf)
  rw[e] at hp
  rw[List.mem_singleton.1 hp]
  show (-1:Int)≠0
  decide
 exact ⟨⟨Z6I hc hfb h2 hf,by rw[hfb];exact h2,by rw[hfb];exact hf,by simp,US (TI hc hfb) (hc.vals _ _ hf) hs rfl⟩,hs⟩
theorem Z2y {B A' A2 A3:Z2} {M:List (ByteArray × Nat)} {at_ torn z nm torn2:Int} {ks ks2:List Bool} {L1:List OpD} (hc:V6 B M at_ ks torn A') (hfb:A'.files=A'.base) (h2:Xb A'.base) {fb:Nat} (hf:Z5 A'.base Zx=some fb) (hL:(Xv (Zf (A'.fs fb))).flatten=L1)
  (hop:VZ A' A2 L1) (hn:0≤A2.now) (hc2:V6 A2 (Y3 A2 (Ya z (A2.now+1).toNat) nm) (Ya z (A2.now+1).toNat) ks2 torn2 A3) (hnd:(A3.base.map (·.1)).Nodup) :
  ∃ fc,Z5 A3.base Zx=some fc∧(Xv (Zf (A3.fs fc))).flatten=L1∧Xb A3.base:=by
 obtain ⟨hs,hall⟩:=Z6v hc hfb h2 hf
 rw[hL] at hs
 have hch:=hop.way hs rfl hall
 have hp:=V4 z (n:=(A2.now+1).toNat) (by omega)
 obtain ⟨M2,k1,⟨F,k2⟩,k3⟩:=hch.at_ (t:=(Ya z (A2.now+1).toNat:Nat)) (by rw[hc.now];omega) (by omega)
 rw[←k1] at hc2
 obtain ⟨fc,k,g1,g2,g3,g4,g5⟩:=k2.cut k3 hc2 hnd
 refine ⟨fc,g1,?_,g5⟩
 rw[g4,g3,List.take_length]
theorem Qj {A A':Z2} {M:List (ByteArray × Nat)} {at_ torn:Int} {ks:List Bool} (hc:V6 A M at_ ks torn A') (hfb:A'.files=A'.base) (h2:Xb A'.base):A'.Small 2 :=
 ⟨by rw[hc.now];decide,by rw[hc.now];decide,by rw[hc.chg];simp,by rw[hc.syn];simp,fun f hf=>by have:=hc.ln f hf;omega,by rw[hfb];exact h2.len⟩
theorem Z75 {P:Program} {o:Oper} {ρ:Operand→Value} {T T':TypeId} {x y:Operand} {A B:Array Value} {v:Value} {W:World} (ho:o.op=.binOp .neq T x y T') (hx:ρ x=.agg A) (hy:ρ y=.agg B)
  (hg:P.eqGuardType P.depth T=false) (h:(binOp .neq T (.agg A) (.agg B)).run P W=.ok v W):(execOp ρ o).run P W=.ok (.value v) W:=by
 unfold execOp
 simp only[ho,hx,hy,eqGuard,Sem.run_bind,Sem.run_pure,Result.andThen_ok]
 simp[hg,h,Result.andThen]
theorem Z5a {α:Type} {a b:List α} {k:Nat} {x:α} (h:a.take k=b.take k) (ha:a[k]?=some x) (hb:b[k]?=some x):a.take (k+1)=b.take (k+1):=by
 rw[List.take_add_one,List.take_add_one,h,ha,hb]
theorem Z0g (va vb:Value) (la lb:List OpD) (w:World) (ha:Z0 OpD.cells 26 w va la) (hb:Z0 OpD.cells 26 w vb lb) :
  Calls Tryz.prog 16 #[va,vb] w fun e w'=>e=.returned (.bool (decide (la=lb)))∧Below w.heap.size w w':=by
 obtain ⟨aa,ca,rfl,hca,hma,-⟩:=id ha
 obtain ⟨ab,cb,rfl,hcb,hmb,-⟩:=id hb
 unfold maxLen at hma hmb
 by_cases hl:la.length=lb.length
 ·obtain ⟨n,hna⟩:=Je (la.length)
  have hnb:lb.length=n:=by rw[←hl];exact hna
  rw[hna] at ha hca ⊢
  rw[hnb] at hb hcb ⊢
  have HA:=Lib.hid ha
  have HB:=Lib.hid hb
  have HL:=Jh (And.intro hna hnb)
  clear ha hb hl hna hnb
  go_enter Tryz.func16,Tryz.ntmps16
  go_wp2_with fail
  go_loopg [5] n (fun g kv wx=>∃ k:Nat,g=n - k∧kv=.int .i64 k∧k≤n∧Hid (la.take k=lb.take k∧Below w.heap.size w wx))
  case atStart=>exact ⟨0,rfl,rfl,Nat.zero_le _,Lib.hid ⟨rfl,Below.refl _ _⟩⟩
  case round =>
   obtain ⟨k,hg,rfl,hk,HR⟩:=hrel
   have HG:=Lib.hid hg
   clear hg
   by_cases hlt:k<n
   ·have hk1:(k:Int)<(n:Int):=by omega
    have hk0:(0:Int)≤(k:Int):=by omega
    obtain ⟨x,hx⟩:∃ x,la[k]?=some x:=⟨_,List.getElem?_eq_getElem (by rw[HL.out.1];exact hlt)⟩
    obtain ⟨y,hy⟩:∃ y,lb[k]?=some y:=⟨_,List.getElem?_eq_getElem (by rw[HL.out.2];exact hlt)⟩
    have hsa:=HA.out.below HR.out.2
    have hsb:=HB.out.below HR.out.2
    obtain ⟨b1,o1,rfl⟩:=hsa.some8 (by intro e;have h:=HL.out.1;rw[e] at h;simp at h;omega)
    obtain ⟨b2,o2,rfl⟩:=hsb.some8 (by intro e;have h:=HL.out.2;rw[e] at h;simp at h;omega)
    have hSW:(fun W:World=>Z0 OpD.cells 26 W (.slice (some ⟨b1,o1,none⟩) n ca) la∧Z0 OpD.cells 26 W (.slice (some ⟨b2,o2,none⟩) n cb) lb) wr.drew:=⟨hsa.below (Below.refl _ _).drew,hsb.below (Below.refl _ _).drew⟩
    have hq:=Z4k x y
    unfold OpD.val at hq
    have HX:=Jh (And.intro hx (And.intro hy hq))
    clear hsa hsb hx hy hq
    go_upto_region 6 with fail
    refine Z8 (fun W:World=>Z0 OpD.cells 26 W (.slice (some ⟨b1,o1,none⟩) n ca) la∧Z0 OpD.cells 26 W (.slice (some ⟨b2,o2,none⟩) n cb) lb) (fun _=>false) (by kernel_rfl) ?_
    have HR1:Hid (Below w.heap.size w wr.drew):=Lib.hid HR.out.2.drew
    generalize wr.drew=W1 at hSW HR1 ⊢
    refine J0 0 17 _ hSW ?_
    try simp only[Ja]
    refine J0 1 18 (.int .i64 k) hSW ?_
    try simp only[Ja]
    refine J0 2 19 (.pointer (some ⟨b1,o1+k*26,none⟩)) hSW ?_
    try simp only[Ja]
    refine JR 3 20 (.agg x.cells.toArray) rfl rfl hSW (fun W hW=>by exact Zg rfl rfl (Wl hW.1 HX.out.1)) ?_
    try simp only[Ja]
    refine J0 4 21 _ hSW ?_
    try simp only[Ja]
    refine J0 5 22 (.int .i64 k) hSW ?_
    try simp only[Ja]
    refine J0 6 23 (.pointer (some ⟨b2,o2+k*26,none⟩)) hSW ?_
    try simp only[Ja]
    refine JR 7 24 (.agg y.cells.toArray) rfl rfl hSW (fun W hW=>by exact Zg rfl rfl (Wl hW.2 HX.out.2.1)) ?_
    try simp only[Ja]
    refine JR 8 25 (.bool (!decide (x=y))) rfl rfl hSW (fun W hW=>by exact Z75 rfl rfl rfl Z6g (HX.out.2.2 W)) ?_
    try simp only[Ja]
    refine Z3 (by kernel_rfl) ?_ _
    clear hSW
    by_cases he:x=y
    ·subst he
     have HN:Hid (la.take (k+1)=lb.take (k+1)∧Below w.heap.size w W1):=Lib.hid ⟨Z5a HR.out.1 HX.out.1 HX.out.2.1,HR1.out⟩
     clear HR HR1
     simp only[decide_true,Bool.not_true]
     go_wp2_with fail
     go_roundg (n - (k+1))
     case measure=>rw[HG.out];omega
     case rel=>exact ⟨k+1,rfl,by simp,by omega,HN⟩
    ·have hne:decide (la=lb)=false:=decide_eq_false (by
      rintro rfl
      have h1:=HX.out.1.symm.trans HX.out.2.1
      exact he (Option.some.inj h1))
     have HNE:=Lib.hid hne
     clear hne
     simp only[decide_eq_false he,Bool.not_false]
     go_wp2_with fail
     go_ret
     exact ⟨by rw[HNE.out];rfl,HR1.out⟩
   ·obtain rfl:k=n:=by omega
    have hk1:¬ (k:Int)<(k:Int):=by omega
    have he:la=lb:=by
     have h:=HR.out.1
     rwa [List.take_of_length_le (by rw[HL.out.1];exact Nat.le_refl _),List.take_of_length_le (by rw[HL.out.2];exact Nat.le_refl _)] at h
    have hne:decide (la=lb)=true:=decide_eq_true he
    have HNE:=Lib.hid hne
    clear hne he
    go_wp2_with fail
    go_ret
    exact ⟨by rw[HNE.out];rfl,HR.out.2⟩
 ·have hl1:¬ (la.length:Int)=(lb.length:Int):=by omega
  have hne:decide (la=lb)=false:=decide_eq_false (fun e=>hl (by rw[e]))
  have HNE:=Lib.hid hne
  clear hne ha hb
  go_enter Tryz.func16,Tryz.ntmps16
  go_wp2_with fail
  go_ret
  exact ⟨by rw[HNE.out];rfl,Below.refl _ _⟩
theorem Z3x (va vb:Value) (la lb:List OpD) (w:World) (ha:Z0 OpD.cells 26 w va la) (hb:Z0 OpD.cells 26 w vb lb) (hn:la.length≤lb.length) :
  Calls Tryz.prog 50 #[va,vb] w fun e w'=>e=.returned (.bool (decide (la=lb.take la.length)))∧Below w.heap.size w w':=by
 obtain ⟨aa,ca,rfl,hca,hma,-⟩:=id ha
 obtain ⟨ab,cb,rfl,hcb,hmb,-⟩:=id hb
 obtain ⟨p,hp⟩:=Je (la.length)
 obtain ⟨q,hq⟩:=Je (lb.length)
 obtain ⟨a',h1,h2,-⟩:=Tr (P:=Tryz.prog) (ea:=OpD.cells) Tryz.underlying24 (by kernel_rfl:(Tryz.prog.info? 68).map (·.size)=some 26) ab q cb p (by rw[←hq];exact hcb) (by omega)
 have HS:=Jh (h2 w lb hq (by rw[←hq];exact hb))
 have HA:=Lib.hid ha
 have HP:=Jh (And.intro hp hq)
 rw[hp,hq] at hn
 rw[hp,hq]
 have hn2:(p:Int)≤(q:Int):=by omega
 have hpl:(lb.take p).length=p:=by rw[List.length_take];omega
 rw[hp] at HA
 clear ha hb hp hq h2 hca hma hcb hmb
 go_enter Tryz.func50,Tryz.ntmps50
 go_wp2_with fail
 refine (Z0g _ _ la (lb.take p) _ HA.out (by have:=HS.out;exact this)).mono ?_
 rintro e w1 ⟨rfl,hb1⟩
 have HB:=Lib.hid hb1
 clear hb1
 go_wp2_with fail
 go_ret
 exact ⟨rfl,HB.out⟩
end Go.Proofs.YtgmdimbiipemhaaGreatDoor
namespace Go.Proofs.YtgmdimbiipemhaaGreatDoor
open Go.ChangeShapes Go.WideShapes Go.RowKit Go.Deep
section
variable {H:Type} {enc:TypeId × Value→H} {w:World} {base:Nat} {spare:Nat→Bool} {held:Bool}
theorem Z2Q:Tryz.prog.cellsOf 84=8:=by kernel_rfl
theorem Z4e {r:Reach} {b0:Nat} {v:Value} {d:DataW H} {p:List MemPlace} (hv:Value.okWide Tryz.prog w r b0 84 v) (h:DataW.Trod enc Tryz.prog w base spare held 84 v d p) :
  ∃ x y:UP,v=.agg #[.int .i64 x.at_,.int .i64 x.names,.slice x.keep.a x.keep.n x.keep.cap,.int .i64 x.torn,.int .i64 y.at_,.int .i64 y.names,.slice y.keep.a y.keep.n y.keep.cap,.int .i64 y.torn]∧x.In w∧y.In w:=by
 simp only[Value.okWide,Tryz.underlying84] at hv
 obtain ⟨cs,rfl,hsz,_⟩:=hv
 rw[Z2Q] at hsz
 obtain ⟨fuel,hf⟩:=h
 obtain ⟨l⟩:=cs
 match l,hsz with
 | [a0,a1,a2,a3,a4,a5,a6,a7],_ =>
  have hf2:DataW.trod enc Tryz.prog w base spare held fuel 84 [a0,a1,a2,a3,a4,a5,a6,a7]=some (d,p):=hf
  obtain ⟨xs,m,_,_,hlen,hxl,hg⟩:=DataW.trod_array (n:=2) (e:=77) Tryz.underlying84 hf2
  have hc:Tryz.prog.cellsOf 77=4:=by kernel_rfl
  have g0:=hg 0 (by omega)
  have g1:=hg 1 (by omega)
  rw[hc] at g0 g1
  obtain ⟨x,hx,hxi⟩:=Sf (a4:=a0) (a5:=a1) (a6:=a2) (a7:=a3) (g0.trans (List.getElem?_eq_getElem (by omega)))
  obtain ⟨y,hy,hyi⟩:=Sf (a4:=a4) (a5:=a5) (a6:=a6) (a7:=a7) (g1.trans (List.getElem?_eq_getElem (by omega)))
  simp only[UP.cells,List.cons.injEq,and_true] at hx hy
  obtain ⟨rfl,rfl,rfl,rfl⟩:=hx
  obtain ⟨rfl,rfl,rfl,rfl⟩:=hy
  exact ⟨x,y,rfl,hxi,hyi⟩
end
end Go.Proofs.YtgmdimbiipemhaaGreatDoor
namespace Go.Proofs.YtgmdimbiipemhaaGreatDoor
open Go.RowKit Go.Deep
theorem Z66 {B:Nat} {w:World} {v:Value} {ms:List Mo} (h:Own Mo.cells 3 86 B w v ms) (hne:ms≠[]) :
  ∃ g cap,v=.slice (some ⟨g,0,none⟩) ms.length cap∧ms.length≤cap∧cap≤maxLen∧∀ (i:Nat) (m:Mo),ms[i]?=some m→w.cell? ⟨g,i*3,none⟩=some (.int .i64 m.c)∧w.cell? ⟨g,i*3+1,none⟩=some (.int .i64 m.o)∧w.cell? ⟨g,i*3+2,none⟩=some (.int .i64 m.s):=by
 rcases h.eq_slice with ⟨_,e⟩|⟨g,c,e,_,_⟩
 ·exact absurd e hne
 ·subst e
  obtain ⟨a,c',e1,h1,h2,h3⟩:=h.slice Mo.len
  obtain ⟨b,o,e2,h4⟩:=h3 hne
  cases e1
  cases e2
  refine ⟨_,c,rfl,h1,h2,fun i m hi=>?_⟩
  have k0:=h4 i m hi 0 _ rfl
  have k1:=h4 i m hi 1 _ rfl
  have k2:=h4 i m hi 2 _ rfl
  rw[Nat.zero_add] at k0 k1 k2
  exact ⟨k0,k1,k2⟩
theorem Z4Y (v:Value) (l:List Xi) (c0 c1:UP) (w00:World) (hv00:Z0 Xi.cells 7 w00 v l) (hin00:∀ x∈l,x.In w00) (hc0:c0.In w00) (hc1:c1.In w00) (hg00:YK w00) :
  Calls Tryz.prog 12 #[v,.agg #[.int .i64 c0.at_,.int .i64 c0.names,.slice c0.keep.a c0.keep.n c0.keep.cap,.int .i64 c0.torn,.int .i64 c1.at_,.int .i64 c1.names,.slice c1.keep.a c1.keep.n c1.keep.cap,.int .i64 c1.torn]] w00 fun e w'=>e=.returned (.bool true)∧Below w00.heap.size w00 w':=by
 obtain ⟨xa,xc,rfl,hxc,hxm,-⟩:=id hv00
 obtain ⟨w,hw⟩:=Je (w00.alloc (.cells #[.int .i64 c0.at_,.int .i64 c0.names,.slice c0.keep.a c0.keep.n c0.keep.cap,.int .i64 c0.torn,.int .i64 c1.at_,.int .i64 c1.names,.slice c1.keep.a c1.keep.n c1.keep.cap,.int .i64 c1.torn] 84))
 have hbw:Below w00.heap.size w00 w:=by rw[←hw];exact (Below.refl _ _).alloc (Nat.le_refl _) _
 have hbx:w.heap[w00.heap.size]?=some (.cells #[.int .i64 c0.at_,.int .i64 c0.names,.slice c0.keep.a c0.keep.n c0.keep.cap,.int .i64 c0.torn,.int .i64 c1.at_,.int .i64 c1.names,.slice c1.keep.a c1.keep.n c1.keep.cap,.int .i64 c1.torn] 84 (0,0)):=by rw[←hw];exact World.alloc_heap_new w00 _
 have HBX:=Jh (And.intro hbx hbw)
 have HW:=Lib.hid hw
 have HC:=Jh (And.intro hc0 hc1)
 have hg:=hg00.below hbw
 have h0:0<w.heap.size:=Zh hg
 have HH:=Jh (And.intro (hv00.below hbw) (And.intro (fun x hx=>(hin00 x hx).below hbw:∀ x∈l,x.In w) hg))
 obtain ⟨pb,hpb⟩:=Je (w00.heap.size)
 have HPW:=Lib.hid hpb
 clear hv00 hin00 hg00 hg hbw hbx hw hc0 hc1 hpb
 go_enter Tryz.func12,Tryz.ntmps12
 go_upto_region 1 with fail
 rw[HW.out,HPW.out]
 go_wp2_with fail
 refine (QM _ (Nat.le_refl _)).mono ?_
 rintro e w1 ⟨D,rfl,hd,hb,-⟩
 have HD:=Jh (And.intro hd (And.intro hb (HH.out.2.2.below hb)))
 clear hd hb
 go_wp2_with fail
 refine (UL HD.out.1 HD.out.2.1.size SF (by omega) (by decide) HD.out.2.2 h0).mono ?_
 rintro e w2 hp
 unfold Sm at hp
 obtain ⟨lb,D2,A2,vo,L0,rfl,hop,ht,hl⟩:=hp
 obtain ⟨f,ld0,hst,hflat,hld,-⟩:=hop.steady Z6j (by decide) Z1n Z6U
 have hld0:=hld rfl
 subst hld0
 obtain rfl:L0=[]:=hflat.symm
 have HS:=Lib.hid hst
 have S2:=Jh (hop.small SF (by decide) Z1n (fun f hf=>(by cases hf)))
 have hg2:=ht.errTy HD.out.1 h0 HD.out.2.2
 have HT:=Jh (And.intro ht (And.intro hl hg2))
 have z2:=Nat.le_trans HD.out.2.1.size ht.ext.size
 have HPB:=Lib.hid ht.pb
 clear hop ht hl hst hflat hld hg2
 go_wp2_with fail
 refine (Z3E _ HT.out.2.2).mono ?_
 rintro e w3 ⟨rfl,hb3⟩
 have T3:=Jh (HT.out.1.trans (Zd.below HT.out.1.is_ hb3))
 have L3:=Jh ((HT.out.2.1.below hb3).mono HD.out.2.1.size)
 have G3:=Jh (HT.out.2.2.below hb3)
 have z3:=Nat.le_trans z2 hb3.size
 have B3:=Jh (T3.out.frame HD.out.1 HD.out.2.1 (Nat.le_refl _) HD.out.2.1.size)
 clear hb3
 have hcw:=Z5g T3.out.is_ z3 L3.out HS.out S2.out (by omega) G3.out h0 _ l (HH.out.1.below B3.out) (fun x hx=>(HH.out.2.1 x hx).below B3.out) (fun x hx hne b o n cap e=>Z0.lt9 (ea:=OpD.cells) (by rw[←e];exact (HH.out.2.1 x hx).l) (fun x=>by rw[OpD.len];omega) hne) (fun b o n cap hne e=>Z0.lt9 (ea:=Xi.cells) (by rw[←e];exact HH.out.1) (fun x=>by rw[Xi.len];omega) hne)
 rw[show D2.pb=D.pb from HPB.out] at hcw
 have HCW:=Lib.hid hcw
 clear hcw
 go_wp2_with fail
 refine HCW.out.mono ?_
 rintro e w4 hp
 unfold Uz at hp
 obtain ⟨v4,ms,D4,A4,vo4,f4,ld,lu,rfl,hms,hm,hml⟩:=hp
 obtain ⟨t0,hI⟩:=hm.way.inv
 obtain ⟨mm0,hm0,hm0c⟩:=hI.hd
 obtain ⟨g4,c4,hv4,hc4,hcm4,hmc⟩:=Z66 hms (by intro e;rw[e] at hm0;simp at hm0)
 subst hv4
 have HM:=Lib.hid hm
 have z4:=Nat.le_trans z3 hm.i.lt.ext.size
 have hlen:=hm.len
 have HGL:=Jh (WB.of hm.i.st)
 have HPF:=Jh (WG (ld++lu).flatten)
 have HPN:=Jh (Z01 (ld++lu).flatten)
 obtain ⟨L,hL⟩:=Je ((ld++lu).flatten)
 have HSZ:Hid ((Zb (YL L)).length≤1048576):=Jh (by
  have h5:=Qo HGL.out
  unfold chN at h5
  rw[hL] at h5 hlen
  omega)
 have HL:=Lib.hid hL
 have T4:=Lib.hid hm.i.lt
 rw[hL] at hlen HGL HPF HPN T4
 have B4:=Jh (T4.out.frame T3.out.is_ L3.out B3.out (Nat.le_refl _) z3)
 have HI:=Lib.hid hI
 have HMC:=Lib.hid hmc
 have hm0':=hmc 0 mm0 hm0
 rw[Nat.zero_mul] at hm0'
 have hm0l:=(List.getElem?_eq_some_iff.1 hm0).1
 have HM0:=Jh (And.intro hm0' hm0c)
 clear hm hL hI hmc hm0 hm0' hm0c hms
 go_wp2_with fail
 refine (Ua T4.out.log (by omega)).mono ?_
 rintro e w5 ⟨v5,rfl,ho5,hb5⟩
 have T5:=Jh (T4.out.below hb5)
 have HO5:=Lib.hid ho5
 have z5:=Nat.le_trans z4 hb5.size
 obtain ⟨qn,hqn⟩:=Je (L.length)
 obtain ⟨a5,c5,hv5,-,-,-⟩:=ho5.slice OpD.len
 rw[hqn] at hv5
 subst hv5
 have HQN:=Lib.hid hqn
 have G5:=Jh (HM.out.i.err.below hb5)
 have HB45:=Lib.hid hb5
 clear ho5 hb5 hqn
 have hbx5:Below w.heap.size w w5:=T5.out.frame T3.out.is_ L3.out B3.out (Nat.le_refl _) z3
 have hpw:pb<w.heap.size:=by rw[←HPW.out];exact (Array.getElem?_eq_some_iff.1 HBX.out.1).1
 have hblk:w5.heap[pb]?=some (.cells #[.int .i64 c0.at_,.int .i64 c0.names,.slice c0.keep.a c0.keep.n c0.keep.cap,.int .i64 c0.torn,.int .i64 c1.at_,.int .i64 c1.names,.slice c1.keep.a c1.keep.n c1.keep.cap,.int .i64 c1.torn] 84 (0,0)):=(hbx5.block pb hpw).trans (by rw[←HPW.out];exact HBX.out.1)
 have HBLK:=Lib.hid hblk
 have z0:=Joins.cell_of_block hblk 0
 simp only[List.getElem?_toArray,List.getElem?_cons_succ,List.getElem?_cons_zero] at z0
 have HB5:=Jh (And.intro hbx5 hpw)
 have hmn:w5.cell? ⟨g4,0,none⟩=some (.int .i64 mm0.c):=Zp HB45.out HM0.out.1.1
 have hml0:(0:Int)<(ms.length:Int):=by omega
 clear hblk hbx5
 go_upto_if 57 with fail
 go_cut [11] from 58 to 60 (fun av wx=>∃ aa:Int,av=.int .i64 aa∧Hid (0≤aa∧aa≤9223372036854775807)∧wx=w5)
 case first =>
  have ha:=HC.out.1.a
  by_cases hn0:c0.at_<0
  ·have hw1:IntKind.i64.wrap (c0.at_+1)=c0.at_+1:=IntWalk.i64_in _ (by unfold inR at ha;omega)
   have hw2:IntKind.i64.wrap (-(c0.at_+1))=-(c0.at_+1):=IntWalk.i64_in _ (by unfold inR at ha;omega)
   have HA:=Jh (show 0≤-(c0.at_+1)∧-(c0.at_+1)≤9223372036854775807 by unfold inR at ha;omega)
   clear ha
   go_wp2_with fail
   go_meet
   case rel=>exact ⟨-(c0.at_+1),rfl,HA,rfl⟩
  ·have HA:=Jh (show 0≤c0.at_∧c0.at_≤9223372036854775807 by unfold inR at ha;omega)
   clear ha
   go_wp2_with fail
   go_meet
   case rel=>exact ⟨c0.at_,rfl,HA,rfl⟩
 case rest =>
  obtain ⟨aa,rfl,HAA,ew⟩:=hcut
  subst ew
  obtain ⟨F,hF⟩:=Je (mm0.c)
  obtain ⟨M,hM⟩:=Je (A4.now)
  have hFM:0≤F∧F≤M∧M≤1000:=by
   have h1:=HI.out.beg
   have h2:=HI.out.beg0
   have h3:=HM.out.i.sm.now
   have h4:=HM0.out.2
   omega
  have hw1:IntKind.i64.wrap (M - F)=M - F:=IntWalk.i64_in _ (by omega)
  have hw2:IntKind.i64.wrap (M - F+1)=M - F+1:=IntWalk.i64_in _ (by omega)
  have hne:¬ M - F+1=0:=by omega
  obtain ⟨r,hr⟩:=Je (aa.tmod (M - F+1))
  have hr0:0≤r∧r≤M - F:=by
   rw[←hr,Int.tmod_eq_emod_of_nonneg HAA.out.1]
   have h1:=Int.emod_nonneg aa (show M - F+1≠0 by omega)
   have h2:=Int.emod_lt_of_pos aa (show 0<M - F+1 by omega)
   omega
  have hw3:IntKind.i64.wrap (F+r)=F+r:=IntWalk.i64_in _ (by omega)
  have hch:=UO T5.out.disk
  rw[show D4.pb=D.pb from T5.out.pb.trans HPB.out,hM] at hch
  have HCH:=Lib.hid hch
  have HR:=Jh (show F≤F+r∧F+r≤M by omega)
  have HFM:=Lib.hid hFM
  have HMF:=Jh (And.intro hF hM)
  clear hch hr0 hFM hM
  rw[hF]
  clear hF hmn
  go_wp2_with fail
  refine HCH.out.mono ?_
  rintro e w6 ⟨rfl,e6⟩
  have e6':=e6.symm
  subst e6'
  clear e6
  obtain ⟨mn,hmn⟩:=Je (ms.length)
  have HMN:=Lib.hid hmn
  rw[hmn] at hml0 hml hm0l ⊢
  clear hmn
  go_upto_region 12 with fail
  obtain ⟨t,ht⟩:=Je (F+r)
  rw[ht] at HR hw3 ⊢
  have hmn63:(mn:Int)≤1000:=by omega
  clear ht
  go_wp2_with fail
  go_loopg [12,13,14] mn (fun g sv cv iv wx=>∃ i:Nat,g=mn - i∧i≤mn∧sv=.int .i64 (Yz (ms.take i) t 0:Nat)∧cv=.int .i64 (Y4 (ms.drop (mn - i)) t qn:Nat)∧iv=.int .i64 i∧wx=wc)
  case atStart=>exact ⟨0,rfl,Nat.zero_le _,rfl,by rw[Nat.sub_zero,←HMN.out,List.drop_length];rfl,rfl,rfl⟩
  case round =>
   obtain ⟨i,hgg,hin,rfl,rfl,rfl,ew⟩:=hrel
   subst ew
   have HG:=Lib.hid hgg
   clear hgg
   by_cases hi:i<mn
   ·obtain ⟨m,hm⟩:∃ m,ms[i]?=some m:=⟨_,List.getElem?_eq_getElem (by rw[HMN.out];exact hi)⟩
    obtain ⟨j,hj⟩:=Je (mn - 1 - i)
    obtain ⟨m2,hm2⟩:∃ m2,ms[j]?=some m2:=⟨_,List.getElem?_eq_getElem (by rw[HMN.out];omega)⟩
    have hk1:=HMC.out i m hm
    have hk2:=HMC.out j m2 hm2
    have q0:=Zp HB45.out hk1.1
    have q2:=Zp HB45.out hk1.2.2
    have p0:=Zp HB45.out hk2.1
    have p1:=Zp HB45.out hk2.2.1
    have HS1:Hid (Yz (ms.take (i+1)) t 0=if m.c≤t then m.s else Yz (ms.take i) t 0):=Jh (by
     rw[List.take_add_one,hm,Option.toList_some,WM])
    have HC1:Hid (Y4 (ms.drop (mn - (i+1))) t qn=if t≤m2.c then m2.o else Y4 (ms.drop (mn - i)) t qn):=Jh (by
     obtain ⟨hjl,hje⟩:=List.getElem?_eq_some_iff.1 hm2
     rw[show mn - (i+1)=j by omega,List.drop_eq_getElem_cons hjl,show j+1=mn - i by omega,hje]
     rfl)
    obtain ⟨s1,hs1⟩:=Je (Yz (ms.take i) t 0)
    obtain ⟨s2,hs2⟩:=Je (Y4 (ms.drop (mn - i)) t qn)
    rw[hs1] at HS1 ⊢
    rw[hs2] at HC1 ⊢
    have hi1:(i:Int)<(mn:Int):=by omega
    have hj0:(j:Int)<(mn:Int):=by omega
    have hj1:IntKind.i64.wrap ((mn:Int) - 1)=(mn:Int) - 1:=IntWalk.i64_in _ (by omega)
    have hj2:IntKind.i64.wrap ((mn:Int) - 1 - (i:Int))=(j:Int):=by rw[IntWalk.i64_in _ (by omega)];omega
    have hi2:IntKind.i64.wrap ((i:Int)+1)=((i+1:Nat):Int):=by rw[IntWalk.i64_in _ (by omega)];omega
    clear hm hm2 hk1 hk2 hj hs1 hs2
    by_cases h1:m.c≤t
    ·by_cases h2:t≤m2.c
     ·have HE:=Jh (show Yz (ms.take (i+1)) t 0=m.s∧Y4 (ms.drop (mn - (i+1))) t qn=m2.o from ⟨by rw[HS1.out,if_pos h1],by rw[HC1.out,if_pos h2]⟩)
      go_wp2_with fail
      go_roundg (mn - (i+1))
      case measure=>rw[HG.out];omega
      case rel=>exact ⟨i+1,rfl,by omega,by rw[HE.out.1],by rw[HE.out.2],rfl,rfl⟩
     ·have HE:=Jh (show Yz (ms.take (i+1)) t 0=m.s∧Y4 (ms.drop (mn - (i+1))) t qn=s2 from ⟨by rw[HS1.out,if_pos h1],by rw[HC1.out,if_neg h2]⟩)
      go_wp2_with fail
      go_roundg (mn - (i+1))
      case measure=>rw[HG.out];omega
      case rel=>exact ⟨i+1,rfl,by omega,by rw[HE.out.1],by rw[HE.out.2],rfl,rfl⟩
    ·by_cases h2:t≤m2.c
     ·have HE:=Jh (show Yz (ms.take (i+1)) t 0=s1∧Y4 (ms.drop (mn - (i+1))) t qn=m2.o from ⟨by rw[HS1.out,if_neg h1],by rw[HC1.out,if_pos h2]⟩)
      go_wp2_with fail
      go_roundg (mn - (i+1))
      case measure=>rw[HG.out];omega
      case rel=>exact ⟨i+1,rfl,by omega,by rw[HE.out.1],by rw[HE.out.2],rfl,rfl⟩
     ·have HE:=Jh (show Yz (ms.take (i+1)) t 0=s1∧Y4 (ms.drop (mn - (i+1))) t qn=s2 from ⟨by rw[HS1.out,if_neg h1],by rw[HC1.out,if_neg h2]⟩)
      go_wp2_with fail
      go_roundg (mn - (i+1))
      case measure=>rw[HG.out];omega
      case rel=>exact ⟨i+1,rfl,by omega,by rw[HE.out.1],by rw[HE.out.2],rfl,rfl⟩
   ·obtain rfl:i=mn:=by omega
    have hi1:¬ (i:Int)<(i:Int):=by omega
    rw[Nat.sub_self,List.drop_zero,List.take_of_length_le (by rw[HMN.out];exact Nat.le_refl _)]
    obtain ⟨su,hsu⟩:=Je (Yz ms t 0)
    obtain ⟨co,hco⟩:=Je (Y4 ms t qn)
    have HSU:=Jh (And.intro hsu hco)
    rw[hsu,hco]
    clear hsu hco
    have z1:=Joins.cell_of_block HBLK.out 1
    have z2':=Joins.cell_of_block HBLK.out 2
    have z3':=Joins.cell_of_block HBLK.out 3
    simp only[List.getElem?_toArray,List.getElem?_cons_succ,List.getElem?_cons_zero] at z1 z2' z3'
    have hb00:Below w00.heap.size w00 wr:=HBX.out.2.trans (HB5.out.1.mono HBX.out.2.size)
    have hct:=Z38 T5.out.disk z5 t c0.names c0.torn c0.ks _ (HC.out.1.sl.below hb00) (by have:=HR.out;have:=HFM.out;omega) (by have:=HR.out;have:=HFM.out;omega) HC.out.1.n.1 HC.out.1.n.2 HC.out.1.t.1 HC.out.1.t.2 HM.out.i.sm (by omega)
    rw[show D4.pb=D.pb from T5.out.pb.trans HPB.out] at hct
    have HCT:=Lib.hid hct
    have HB00:=Lib.hid hb00
    clear hct hb00
    go_wp2_with fail
    refine HCT.out.mono ?_
    rintro e w6 hp
    unfold SI at hp
    obtain ⟨D15,A15,rfl,hd15,hfb15,hc15,hb15⟩:=hp
    obtain ⟨fb,k,g1,g2,g3,g4',g5,g6,g7⟩:=Z4g HI.out (t:=t) (by have:=HR.out;have:=HFM.out;omega) (by have:=HR.out;have:=HM0.out.2;have:=HMF.out.1;omega) (by have:=HR.out;have:=HMF.out.2;omega) hc15 hd15.mbase.1
    rw[HL.out] at g2 g6
    have H15:=Jh (And.intro hd15 (And.intro hfb15 (And.intro hc15 hb15)))
    have HK:=Jh (And.intro g1 (And.intro g2 (And.intro g3 (And.intro g4' (And.intro g5 (And.intro g6 g7))))))
    have S15:=Jh (Qj hc15 hfb15 g7)
    have G15:=Jh (G5.out.below hb15)
    have z15:=hb15.size
    have hwr0:0<wr.heap.size:=Zh G5.out
    have hl15:A15.files.length≤7:=by rw[hfb15];have:=g7.len;omega
    clear hd15 hfb15 hc15 hb15 g1 g2 g3 g4' g5 g6 g7
    go_wp2_with fail
    refine (UL H15.out.1 z15 S15.out (by omega) hl15 G15.out hwr0).mono ?_
    rintro e w7 hp
    unfold Sm at hp
    obtain ⟨lb1,D16,A16,vo1,L1,rfl,hop,ht16,hl16⟩:=hp
    obtain ⟨f16,ld16,hst16,hflat,-,hld⟩:=hop.steady (TI H15.out.2.2.1 H15.out.2.1) (by rw[H15.out.2.2.1.now];exact Int.le_refl _) (SL H15.out.2.2.1 H15.out.2.1 HK.out.2.2.2.2.2.2) (by rw[H15.out.2.1];exact HK.out.2.2.2.2.2.2)
    have hld16:=hld fb (by rw[H15.out.2.1];exact HK.out.1)
    rw[hld16,HK.out.2.2.2.2.2.1] at hflat
    have S16:=Jh (hop.small S15.out hl15 (SL H15.out.2.2.1 H15.out.2.1 HK.out.2.2.2.2.2.2) H15.out.1.ok.sz)
    have H16:=Jh (And.intro hop (And.intro ht16 (And.intro hl16 (And.intro hst16 hflat))))
    have B7:=Jh (ht16.frame H15.out.1 H15.out.2.2.2 (Nat.le_refl _) z15)
    have z7:=Nat.le_trans z15 ht16.ext.size
    have G7:=Jh (ht16.errTy H15.out.1 hwr0 G15.out)
    have hpb16:D16.pb=D15.pb:=ht16.pb
    have hn16:0≤A16.now:=hst16.now
    have HBLK7:=Jh ((B7.out.block pb (by have:=HB5.out.2;have:=HB5.out.1.size;omega)).trans HBLK.out)
    have y0:=Joins.cell_of_block HBLK7.out 4
    have y1:=Joins.cell_of_block HBLK7.out 5
    have y2:=Joins.cell_of_block HBLK7.out 6
    have y3:=Joins.cell_of_block HBLK7.out 7
    simp only[List.getElem?_toArray,List.getElem?_cons_succ,List.getElem?_cons_zero] at y0 y1 y2 y3
    have hct2:=Z38 ht16.is_ z7 c1.at_ c1.names c1.torn c1.ks _ (HC.out.2.sl.below (HB00.out.trans (B7.out.mono HB00.out.size))) HC.out.2.a.1 HC.out.2.a.2 HC.out.2.n.1 HC.out.2.n.2 HC.out.2.t.1 HC.out.2.t.2 S16.out (by omega)
    rw[hpb16] at hct2
    have HCT2:=Lib.hid hct2
    clear hop ht16 hl16 hst16 hflat hld hld16 hpb16 hct2 z0 z1 z2' z3'
    go_wp2_with fail
    refine HCT2.out.mono ?_
    rintro e w8 hp
    unfold SI at hp
    obtain ⟨D17,A17,rfl,hd17,hfb17,hc17,hb17⟩:=hp
    obtain ⟨fc,k1,k2,k3⟩:=Z2y H15.out.2.2.1 H15.out.2.1 HK.out.2.2.2.2.2.2 HK.out.1 (HK.out.2.2.2.2.2.1.trans H16.out.2.2.2.2) H16.out.1 hn16 hc17 hd17.mbase.1
    have S17:=Jh (Qj hc17 hfb17 k3)
    have G17:=Jh (G7.out.below hb17)
    have z17:=hb17.size
    have hw70:0<w7.heap.size:=Zh G7.out
    have hl17:A17.files.length≤7:=by rw[hfb17];have:=k3.len;omega
    have H17:=Jh (And.intro hd17 (And.intro hfb17 (And.intro hc17 (And.intro hb17 (And.intro k1 (And.intro k2 k3))))))
    clear hd17 hfb17 hc17 hb17 k1 k2 k3 y0 y1 y2 y3
    go_wp2_with fail
    refine (UL H17.out.1 z17 S17.out (by omega) hl17 G17.out hw70).mono ?_
    rintro e w9 hp
    unfold Sm at hp
    obtain ⟨lb2,D18,A18,vo2,L2,rfl,hop2,ht18,hl18⟩:=hp
    obtain ⟨f18,ld18,hst18,hflat2,-,hld2⟩:=hop2.steady (TI H17.out.2.2.1 H17.out.2.1) (by rw[H17.out.2.2.1.now];exact Int.le_refl _) (SL H17.out.2.2.1 H17.out.2.1 H17.out.2.2.2.2.2.2) (by rw[H17.out.2.1];exact H17.out.2.2.2.2.2.2)
    have hld18:=hld2 fc (by rw[H17.out.2.1];exact H17.out.2.2.2.2.1)
    rw[hld18,H17.out.2.2.2.2.2.1] at hflat2
    subst hflat2
    have B9:=Jh (ht18.frame H17.out.1 H17.out.2.2.2.1 (Nat.le_refl _) z17)
    have HL1:=Jh (H16.out.2.2.1.below B9.out)
    have HL2:=Lib.hid hl18
    have HLK:Hid (L1.length=k∧k≤qn):=Jh (by
     have h5:=H16.out.2.2.2.2
     have h6:=HK.out.2.1
     have h7:=HQN.out
     refine ⟨?_,by omega⟩
     rw[←h5,List.length_take]
     omega)
    have hk48:k≤4800:=by have:=HLK.out.2;have:=HQN.out;omega
    clear hop2 ht18 hl18 hst18 hld2 hld18
    go_wp2_with fail
    refine (Ua HL1.out (by have:=HLK.out.1;omega)).mono ?_
    rintro e w10 ⟨v10,rfl,ho10,hb10⟩
    obtain ⟨a10,c10,hv10,-,-,-⟩:=ho10.slice OpD.len
    rw[HLK.out.1] at hv10
    subst hv10
    have HO10:=Lib.hid ho10
    have L2A:=Jh (HL2.out.below hb10)
    have B10:=Jh (B9.out.trans (hb10.mono B9.out.size))
    clear ho10 hb10
    go_wp2_with fail
    refine (Ua L2A.out (by have:=HLK.out.1;omega)).mono ?_
    rintro e w11 ⟨v11,rfl,ho11,hb11⟩
    obtain ⟨a11,c11,hv11,-,-,-⟩:=ho11.slice OpD.len
    rw[HLK.out.1] at hv11
    subst hv11
    have HO11:=Jh (And.intro ho11 (HO10.out.below1 hb11))
    have L2B:=Jh (L2A.out.below hb11)
    have B11:=Jh (B10.out.trans (hb11.mono B10.out.size))
    have BR:=Jh (B7.out.trans (B11.out.mono B7.out.size))
    clear ho11 hb11
    go_wp2_with fail
    have hanyT:ms.any (fun m=>m.o == k)=true:=by
     obtain ⟨m,hm,hmo⟩:=HK.out.2.2.2.2.1
     exact List.any_eq_true.2 ⟨m,hm,by simp[hmo]⟩
    have HAT:=Lib.hid hanyT
    clear hanyT
    go_loopg [23,24] i (fun g bv iv wx=>∃ n:Nat,g=i - n∧n≤i∧bv=.bool ((ms.take n).any (fun m=>m.o == k))∧iv=.int .i64 n∧wx=w11)
    case atStart=>exact ⟨0,rfl,Nat.zero_le _,rfl,rfl,rfl⟩
    case round =>
     obtain ⟨n,hgg,hnn,rfl,rfl,ew⟩:=hrel
     subst ew
     have HG2:=Lib.hid hgg
     clear hgg
     by_cases hn:n<i
     ·obtain ⟨m,hm⟩:∃ m,ms[n]?=some m:=⟨_,List.getElem?_eq_getElem (by rw[HMN.out];exact hn)⟩
      have q1:=XN BR.out (Zp HB45.out (HMC.out n m hm).2.1) (Zh (Zp HB45.out (HMC.out n m hm).2.1))
      have HN1:Hid ((ms.take (n+1)).any (fun m=>m.o == k)=((ms.take n).any (fun m=>m.o == k) || m.o == k)):=Jh (by
       rw[List.take_add_one,hm,Option.toList_some,List.any_append]
       simp)
      obtain ⟨bo,hbo⟩:=Je ((ms.take n).any (fun m=>m.o == k))
      rw[hbo] at HN1 ⊢
      have hn1:(n:Int)<(i:Int):=by omega
      have hn2:IntKind.i64.wrap ((n:Int)+1)=((n+1:Nat):Int):=by rw[IntWalk.i64_in _ (by omega)];omega
      clear hm hbo
      cases bo with
      | true =>
       go_wp2_with fail
       go_roundg (i - (n+1))
       case measure=>rw[HG2.out];omega
       case rel=>exact ⟨n+1,rfl,by omega,by rw[HN1.out];rfl,rfl,rfl⟩
      | false =>
       by_cases hmk:m.o=k
       ·have hbq:(((m.o:Nat):Int) == ((k:Nat):Int))=true:=by simp[hmk]
        have HMK:=Lib.hid hmk
        clear hmk
        go_wp2_with fail
        go_roundg (i - (n+1))
        case measure=>rw[HG2.out];omega
        case rel=>exact ⟨n+1,rfl,by omega,by rw[HN1.out,HMK.out];simp,rfl,rfl⟩
       ·have hbq:(((m.o:Nat):Int) == ((k:Nat):Int))=false:=by simp;omega
        have HMK:=Lib.hid hmk
        clear hmk
        go_wp2_with fail
        go_roundg (i - (n+1))
        case measure=>rw[HG2.out];omega
        case rel=>exact ⟨n+1,rfl,by omega,by rw[HN1.out];simp[HMK.out],rfl,rfl⟩
     ·obtain rfl:n=i:=by omega
      have hn1:¬ (n:Int)<(n:Int):=by omega
      rw[List.take_of_length_le (by rw[HMN.out];exact Nat.le_refl _),HAT.out]
      go_wp2_with fail
      refine (Z3x _ _ L1 L _ (HO11.out.2.slice OpD.len) ((HO5.out.ext (Ext.of_below (S:=fun _=>False) BR.out) (fun _ _=>id)).slice OpD.len) (by have:=HLK.out;have:=HQN.out;omega)).mono ?_
      rintro e w12 ⟨rfl,hb12⟩
      rw[decide_eq_true (show L1=L.take L1.length by rw[HLK.out.1];exact H16.out.2.2.2.2.symm)]
      have HO12:=Jh (And.intro (HO11.out.1.below1 hb12) (HO11.out.2.below1 hb12))
      have L2C:=Jh (L2B.out.below hb12)
      have B12:=Jh (BR.out.trans (hb12.mono BR.out.size))
      clear hb12
      go_wp2_with fail
      refine (Z0g _ _ L1 L1 _ (HO12.out.2.slice OpD.len) (HO12.out.1.slice OpD.len)).mono ?_
      rintro e w13 ⟨rfl,hb13⟩
      rw[decide_eq_true (rfl:L1=L1)]
      have L2D:=Jh (L2C.out.below hb13)
      have B13:=Jh (B12.out.trans (hb13.mono B12.out.size))
      have hge:(su:Int)≤(k:Int):=by
       have h1:=HSU.out.1
       have h2:=HK.out.2.2.1
       omega
      have hle:(k:Int)≤(co:Int):=by
       have h1:=HSU.out.2
       have h2:=HK.out.2.2.2.1
       have h3:=R5 (ms:=ms) (t:=t) (by obtain ⟨m,hm,hmc⟩:=HI.out.ex;exact ⟨m,hm,by rw[hmc,HMF.out.2];exact HR.out.2⟩) qn 0
       omega
      clear hb13
      go_wp2_with fail
      refine (UN L2D.out).mono ?_
      rintro e w14 ⟨rfl,e14⟩
      have e14':=e14.symm
      subst e14'
      clear e14
      rw[HLK.out.1]
      go_wp2_with fail
      go_ret
      exact ⟨rfl,HB00.out.trans (B13.out.mono HB00.out.size)⟩
end Go.Proofs.YtgmdimbiipemhaaGreatDoor
namespace Go.Proofs.YtgmdimbiipemhaaGreatDoor
open Go.ChangeShapes Go.WideShapes Go.ChangeAt Go.RowKit
def Z6l : List (String × DataW Unit) := [("errors.errorType", Rows.laid_errors_errorType)]
theorem Tryz.et : Tryz.prog.globalNamed "errors.errorType" = some 0 := by kernel_rfl
theorem Tryz.rt : (Tryz.prog.cutTypes.find? (·.1 == "internal/reflectlite.rtype")).map (·.2) = some 234 := by kernel_rfl
theorem Tryz.oneRow:((List.range Tryz.prog.types.size).filter fun t=>Tryz.prog.rowNamed t [101,114,114,111,114])=[94]:=by kernel_rfl
noncomputable def Z5e (os:Os):World :=
 let w0:=World.holding Tryz.prog os ⟨#[],#[],[]⟩
 { w0 with heap:=w0.heap.modify 0 fun
   | .cells _ t frozen=>.cells #[.iface 234 (.agg #[.pointer (some ⟨5,94,none⟩)])] t frozen
   | o=>o }
def Vp : List (String × DataW Unit) := [("unicode/utf8.acceptRanges", Rows.laid_unicode_utf8_acceptRanges), ("bytes.ErrTooLarge", Rows.laid_bytes_ErrTooLarge), ("unicode/utf8.first", Rows.laid_unicode_utf8_first)]
def Us : List (String × DataW Unit) := [("unicode/utf8.acceptRanges", Rows.laid_unicode_utf8_acceptRanges), ("errors.errorType", Rows.laid_errors_errorType), ("bytes.ErrTooLarge", Rows.laid_bytes_ErrTooLarge), ("unicode/utf8.first", Rows.laid_unicode_utf8_first)]
theorem RZ:(Us.filter fun x=>x.2.handleName?.isNone)=Vp:=by kernel_rfl
theorem RV:(Us.filter fun x=>x.2.handleName?.isSome)=Z6l:=by kernel_rfl
theorem QF {W:World} (h:laidMetH Tryz.prog Us W):YK W:=by
 have h2:handlesMet Tryz.prog Z6l W:=by
  unfold laidMetH at h
  rw[RV,RZ] at h
  exact h.2
 obtain ⟨name,u,ty,e1,e2,e3,e4,e5⟩:=h2 _ (List.mem_singleton.2 rfl)
 have en:name=[101,114,114,111,114]:=(Option.some.inj e1).symm
 subst en
 obtain rfl:=Option.some.inj (Tryz.rt.symm.trans e2)
 have hm:ty∈(List.range Tryz.prog.types.size).filter fun t=>Tryz.prog.rowNamed t [101,114,114,111,114]:=List.mem_filter.2 ⟨List.mem_range.2 e3,e4⟩
 rw[Tryz.oneRow] at hm
 obtain rfl:=List.mem_singleton.1 hm
 have hh:typeHandle Tryz.prog 94=.pointer (some ⟨5,94,none⟩):=by kernel_rfl
 rw[hh] at e5
 unfold YK
 simpa using World.var?_cell Tryz.et e5 0
noncomputable def SH (os:Os):World:=(Z5e os).layVars Tryz.prog Vp
theorem Z4i (os:Os):(SH os).os=os:=World.layVars_os _ _ _
theorem Z2p (os:Os) (args:Array Value):laidMetH Tryz.prog Us ((SH os).forCall (fun _ _=>0) ⟨#[],args,[]⟩).memory:=by
 refine laidMetH_of_parts ?_ (by rw[RV];kernel_rfl)
 rw[RZ]
 have e1:(Vp.filter fun x=>(Vp.map (·.1)).contains x.1)=Vp:=List.filter_eq_self.2 fun x hx=>List.contains_iff_mem.2 (List.mem_map.2 ⟨x,hx,rfl⟩)
 have e2:(Vp.filter fun x=>!(Vp.map (·.1)).contains x.1)=[]:=List.filter_eq_nil_iff.2 fun x hx=>by rw[List.contains_iff_mem.2 (List.mem_map.2 ⟨x,hx,rfl⟩)];simp
 have h:laidMet Tryz.prog Vp (SH os):=laidMet_layVars (w0:=Z5e os) (Vp.map (·.1)) [] (by rw[e1];rfl) (by rw[e1];kernel_rfl) (by rw[e1];kernel_rfl) (by rw[e2];exact LaidIn.none)
 exact h.of_heap (by simp[World.memory,World.forCall,Input.heap])
end Go.Proofs.YtgmdimbiipemhaaGreatDoor
namespace Go.Proofs.YtgmdimbiipemhaaGreatDoor
open Go Go.ChangeShapes Go.WideShapes Go.ChangeAt Go.RowKit
theorem ST (os:Os) (started:os.Started) (H:Type) (enc:TypeId × Value→H) :
  ReturnsInHanded {} Tryz.checked os 12 .any (fun w args=>(Rows.oplogKeepsSpec.pre enc Tryz.prog Tryz.f12 [] false w args∧laidMetH Tryz.prog Us w)∧sizedMet enc Tryz.prog Tryz.f12 (OpenSpec.ofChange Rows.oplogKeepsSpec) false w args)
   (Rows.oplogKeepsSpec.post enc Tryz.prog Tryz.f12 false true false false):=by
 refine returnsInHanded_of_change_and (C:=Tryz.checked) (X:=fun w _=>laidMetH Tryz.prog Us w) (fun _ _ _ hh h=>h.of_heap hh) Tryz.own started (by kernel_rfl) Tryz.func12
  (ChangeSpec.witness_shaped (enc:=enc) (C:=Tryz.checked) (os:=os) (X:=fun w _=>laidMetH Tryz.prog Us w) false (SH os) #[.slice none 0 0,.agg #[.int .i64 0,.int .i64 0,.slice none 0 0,.int .i64 0,.int .i64 0,.int .i64 0,.slice none 0 0,.int .i64 0]] 8 (Z4i os) (World.shaped_of_ZipB (by kernel_rfl) (by kernel_rfl)) (by kernel_rfl) (by kernel_rfl) (by kernel_rfl) (Z2p os _)) ?_
 intro W base args ds gs before hval0 hW _ _ hL _
 have hval:∀ (j:Nat) t v,Tryz.f12.params[j]?=some t→args[j]?=some v→Value.okWide Tryz.prog W .any base t v:=hval0
 have hW':=hW
 obtain ⟨p,q,hA0,hV,rfl,hfz,hnd⟩:=hW
 have hA:DataW.TrodAll enc Tryz.prog W 0 (fun _=>true) true Tryz.f12.params.toList args.toList ds p:=hA0
 rw[Tryz.params12] at hA hval
 obtain ⟨v0,vs0,d0,ds0,p0,q0,hargs,rfl,rfl,h0,r0⟩:=trodAll_cons hA
 obtain ⟨v1,vs1,d1,ds1,p1,q1,rfl,rfl,rfl,h1,r1⟩:=trodAll_cons r0
 obtain ⟨rfl,rfl,rfl⟩:=trodAll_nil r1
 obtain rfl:args=#[v0,v1]:=by cases args;simp_all
 obtain ⟨rfl,rfl⟩:=trodVars_none hV
 have k0:=h0
 have lt0:∀ x∈p0,x.block<W.heap.size:=by obtain ⟨m,hm⟩:=k0;exact DataW.trod_lt m _ _ _ hm
 have k1:=h1
 have lt1:∀ x∈p1,x.block<W.heap.size:=by obtain ⟨m,hm⟩:=k1;exact DataW.trod_lt m _ _ _ hm
 obtain ⟨l,hv0,hin0⟩:=Z2J (hval 0 71 v0 rfl rfl) h0
 obtain ⟨c0,c1,rfl,hc0,hc1⟩:=Z4e (hval 1 84 v1 rfl rfl) h1
 clear hA0 hval0
 refine (Z4Y v0 l c0 c1 W hv0 hin0 hc0 hc1 (QF hL)).mono fun e W' ⟨he,bel⟩=>?_
 subst he
 exact ⟨_,rfl,_,_,_,[],_,[],hW',trodAll_mk1 (shut_bool Tryz.underlying4 _),(trodAll_cons_mk (Below.trod Tryz.laidOut (by kernel_rfl) (of_decide_eq_true (by kernel_rfl)) k0 bel lt0) (trodAll_cons_mk (Below.trod Tryz.laidOut (by kernel_rfl) (of_decide_eq_true (by kernel_rfl)) k1 bel lt1) trodAll_mk0)),rfl,bel.frame _,fun h=>by cases h⟩
theorem Z0W:(Rows.oplogKeepsRow.inPlace == Tryz.prog.inPlace 12)=true:=by kernel_rfl
theorem Z0T:(Rows.oplogKeepsRow.unfollowed == Tryz.prog.unfollowed 12)=true:=by kernel_rfl
theorem Z0Z:(Rows.oplogKeepsRow.recurses == Tryz.prog.recurses 12)=true:=by kernel_rfl
theorem Z10:(Rows.oplogKeepsRow.named == Tryz.prog.varsNamed 12)=true:=by kernel_rfl
theorem Q5:joinedFacts Tryz.prog 12 Tryz.f12 Rows.oplogKeepsSpec Rows.oplogKeepsRow=true:=by
 unfold joinedFacts
 rw[Z0W,Z0T,Z0Z,Z10]
 kernel_rfl
theorem RB:Rows.OplogKeepsSaid :=
 OpenClaim.holds_of_wide 12 Tryz.f12 rfl rfl rfl rfl rfl rfl rfl ⟨rfl,rfl,rfl,rfl,rfl⟩ rfl rfl rfl rfl rfl (by kernel_rfl) Tryz.func12 Q5
  (of_decide_eq_true (by kernel_rfl)) (by unfold Func.isWrapper;first|(rw[if_pos (by decide +kernel)];kernel_rfl)|(rw[if_neg (by decide +kernel)];exact ⟨rfl,rfl⟩))
  (fun os started H enc _=>ST os started H enc)
theorem oplogKeeps_card:Rows.OplogKeepsCardSaid :=
 Claim7.holds_tied_plain_at .later [] [.data,.handle,.sentinel,.pinned] true Rows.oplogKeepsCard.stood.harness true
  RB (fun _ h=>by cases h) (by kernel_rfl) (fun _ h=>by cases h) oplogKeeps_row_tie rfl ⟨rfl,rfl⟩ (by kernel_rfl) rfl
  (fun f fn hf hfn=>by
   obtain rfl : f = 12 := Option.some.inj ((show Tryz.prog.funcNamed "stemma/stemmalaw09.OplogKeeps" = some 12 by kernel_rfl).symm.trans hf) |>.symm
   obtain rfl:fn=Tryz.f12:=(Option.some.inj (Tryz.func12.symm.trans hfn)).symm
   exact ⟨by kernel_rfl,fun j t ht=>by
    rw[Tryz.params12] at ht
    have hm:t∈[71,84]:=by simpa using Array.mem_of_getElem? ht
    have hall:([71,84].all fun u=>!Tryz.prog.wantsStandIn u)=true:=by kernel_rfl
    exact (show Tryz.prog.wantsStandIn t=false by simpa using List.all_eq_true.1 hall t hm)⟩)
  (by kernel_rfl)
#print axioms oplogKeeps_card
end Go.Proofs.YtgmdimbiipemhaaGreatDoor
