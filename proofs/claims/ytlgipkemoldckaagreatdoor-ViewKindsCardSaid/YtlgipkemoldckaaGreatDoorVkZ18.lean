/- ViewKinds, part 18 of what the proof leans on (made short by a program). -/
import Derived.Test.YtlgipkemoldckaaGreatDoorVkZ17
set_option linter.unusedSimpArgs false
set_option linter.unusedVariables false
set_option linter.unusedSectionVars false
set_option maxRecDepth 20000
set_option maxHeartbeats 30000000
namespace Go.Proofs.YtlgipkemoldckaaGreatDoor
open Go.RowKit
theorem Z2d {α:Type} {ea:α→List Value} {k:Nat} {e:TypeId} (w:World):Own ea k e w.heap.size (w.alloc (.cells #[] e)) (.slice (some ⟨w.heap.size,0,none⟩) 0 0) [] :=
 ⟨by simp,.inr ⟨w.heap.size,0,#[],rfl,Nat.le_refl _,World.alloc_heap_new w _,Nat.le_refl _,Nat.zero_le _,by simp,by simp⟩⟩
def Got (l:List El) (A:List Ch) (k m:Nat) (s:St):Prop:=(∃ j x,j<k∧l[j]?=some x∧Yg x=true∧x.id=s)∨∃ j d,j<m∧A[j]?=some d∧d.under=s
theorem Z2H {l:List El} {A:List Ch} {s:St}:Got l A l.length A.length s↔(X6 l s=true∨∃ d∈A,d.under=s):=by
 unfold Got
 refine or_congr ⟨?_,?_⟩ ⟨?_,?_⟩
 ·rintro ⟨j,x,_,h1,h2,h3⟩;exact V8.2 ⟨x,List.mem_of_getElem? h1,h2,h3⟩
 ·intro h
  obtain ⟨x,h1,h2,h3⟩:=V8.1 h
  obtain ⟨j,hj⟩:=List.getElem?_of_mem h1
  exact ⟨j,x,(List.getElem?_eq_some_iff.1 hj).1,hj,h2,h3⟩
 ·rintro ⟨j,d,_,h1,h2⟩;exact ⟨d,List.mem_of_getElem? h1,h2⟩
 ·rintro ⟨d,h1,h2⟩
  obtain ⟨j,hj⟩:=List.getElem?_of_mem h1
  exact ⟨j,d,(List.getElem?_eq_some_iff.1 hj).1,hj,h2⟩
theorem Z2U {l:List El} {A:List Ch} {s:St}:Got l A 0 0 s↔False:=by
 unfold Got
 constructor
 ·rintro (⟨j,_,h,_⟩|⟨j,_,h,_⟩) <;> omega
 ·exact False.elim
theorem Z1I {l:List El} {A:List Ch} {k m:Nat} {x:El} (hx:l[k]?=some x) {s:St}:Got l A (k+1) m s↔(Got l A k m s∨(Yg x=true∧x.id=s)):=by
 unfold Got
 constructor
 ·rintro (⟨j,y,h1,h2,h3,h4⟩|h)
  ·by_cases e:j=k
   ·subst e;rw[hx] at h2;cases h2;exact .inr ⟨h3,h4⟩
   ·exact .inl (.inl ⟨j,y,by omega,h2,h3,h4⟩)
  ·exact .inl (.inr h)
 ·rintro ((⟨j,y,h1,h2⟩|h)|⟨h1,h2⟩)
  ·exact .inl ⟨j,y,by omega,h2⟩
  ·exact .inr h
  ·exact .inl ⟨k,x,by omega,hx,h1,h2⟩
theorem Z3K {l:List El} {A:List Ch} {k m:Nat} {d:Ch} (hd:A[m]?=some d) {s:St}:Got l A k (m+1) s↔(Got l A k m s∨s=d.under):=by
 unfold Got
 constructor
 ·rintro (h|⟨j,y,h1,h2,h3⟩)
  ·exact .inl (.inl h)
  ·by_cases e:j=m
   ·subst e;rw[hd] at h2;cases h2;exact .inr h3.symm
   ·exact .inl (.inr ⟨j,y,by omega,h2,h3⟩)
 ·rintro ((h|⟨j,y,h1,h2⟩)|h)
  ·exact .inl h
  ·exact .inr ⟨j,y,by omega,h2⟩
  ·exact .inr ⟨m,d,by omega,hd,h.symm⟩
def Wq (w:World) (l:List El) (A:List Ch) (k m:Nat) (v:Value) (C:List Ch) (W:World):Prop :=
 Own Ch.cells 5 53 w.heap.size W v C∧Gth A (Got l A k m) C∧C.length≤A.length+(k+m)∧Below w.heap.size w W
theorem Z5.ecells20 {w:World} {v:Value} {l:List El} (h:Z5 El.cells 4 w v l) (hne:l≠[]):∃ b o cap,v=.slice (some ⟨b,o,none⟩) l.length cap∧∀ i (x:El),l[i]?=some x →
  w.cell? ⟨b,o+i*4,none⟩=some (.int .i64 x.id.n)∧w.cell? ⟨b,o+i*4+1,none⟩=some (.int .i64 x.id.r)∧w.cell? ⟨b,o+i*4+2,none⟩=some (.int .i64 x.ch)∧w.cell? ⟨b,o+i*4+3,none⟩=some (.bool x.gone):=by
 obtain ⟨a,cap,rfl,_,_,h4⟩:=h
 obtain ⟨b,o,rfl,h6⟩:=h4 hne
 exact ⟨b,o,cap,rfl,fun i x hi=>⟨h6 i x hi 0 _ rfl,h6 i x hi 1 _ rfl,h6 i x hi 2 _ rfl,h6 i x hi 3 _ rfl⟩⟩
theorem Wq.skip {w W:World} {l:List El} {A C:List Ch} {k m:Nat} {v:Value} {x:El} (h:Wq w l A k m v C W) (hx:l[k]?=some x) (hb:Yg x=false):Wq w l A (k+1) m v C W :=
 ⟨h.1,h.2.1.mono (fun s=>by rw[Z1I hx,hb];simp),by have:=h.2.2.1;omega,h.2.2.2⟩
theorem Wq.el {w W W':World} {l:List El} {A C:List Ch} {k m:Nat} {v v':Value} {x:El} (h:Wq w l A k m v C W) (hx:l[k]?=some x) (hb:Yg x=true) (ho:Own Ch.cells 5 53 w.heap.size W' v' (YC C x.id)) (he:Ext (fun b=>v.ownBlock=some b) W W'):Wq w l A (k+1) m v' (YC C x.id) W' :=
 ⟨ho,(h.2.1.more x.id).mono (fun s=>by rw[Z1I hx,hb];simp[eq_comm]),by have:=h.2.2.1;have:=VL C x.id;omega,Ext.new h.2.2.2 he (fun i hi _ e=>by have:=(h.1.blk i e).1;omega) h.2.2.2.size⟩
theorem Wq.ch {w W W':World} {l:List El} {A C:List Ch} {k m:Nat} {v v':Value} {d:Ch} (h:Wq w l A k m v C W) (hd:A[m]?=some d) (ho:Own Ch.cells 5 53 w.heap.size W' v' (YC C d.under)) (he:Ext (fun b=>v.ownBlock=some b) W W'):Wq w l A k (m+1) v' (YC C d.under) W' :=
 ⟨ho,(h.2.1.more d.under).mono (fun s=>by rw[Z3K hd]),by have:=h.2.2.1;have:=VL C d.under;omega,Ext.new h.2.2.2 he (fun i hi _ e=>by have:=(h.1.blk i e).1;omega) h.2.2.2.size⟩
def Rz (l:List El) (h:Zk) (A:List Ch) (w:World) (e:Ending) (w':World):Prop :=
 ∃ v D,e=.returned v∧Own Ch.cells 5 53 w.heap.size w' v D∧Zo (Y6 l h A) D∧D.length≤A.length+(l.length+A.length)∧Below w.heap.size w w'
theorem Z1L {α:Type} {ys R:List α} {j:Nat} (p q:α) (hj:j<ys.length):YL (ys++R) j p q=YL ys j p q++R:=by
 unfold YL
 rw[List.set_append_left _ _ hj,List.set_append_left _ _ (by rw[List.length_set];omega)]
theorem Z0p {zs C ys:List Ch} {i:Nat} {x:Ch} (hp:zs.Perm C) (hx:zs[i]?=some x) (hy:ys.Perm (zs.take i++[x])) (hl:ys.length=i+1) (hs:ys.Pairwise BLt):(ys++zs.drop (i+1)).Perm C∧((ys++zs.drop (i+1)).take (i+1)).Pairwise BLt:=by
 refine ⟨?_,by rw[←hl,List.take_left];exact hs⟩
 have h1:zs.take i++[x]=zs.take (i+1):=by rw[List.take_add_one,hx];rfl
 rw[h1] at hy
 have:=hy.append_right (zs.drop (i+1))
 rw[List.take_append_drop] at this
 exact this.trans hp
theorem Qh {l:List El} {h:Zk} {A C zs:List Ch} {w W:World} {v:Value} (hA:Zo h A) (hk:ZZ h) (g:Gth A (Got l A l.length A.length) C) (hc:C.length≤A.length+(l.length+A.length)) (hp:zs.Perm C) (hs:(zs.take C.length).Pairwise BLt) (ho:Own Ch.cells 5 53 w.heap.size W v zs) (hb:Below w.heap.size w W):Rz l h A w (.returned v) W:=by
 rw[←hp.length_eq,List.take_length] at hs
 exact ⟨v,zs,rfl,ho,(g.mono (fun s=>Z2H)).allOf hA hk hp hs,by rw[hp.length_eq];exact hc,hb⟩
theorem Z0q (va vk:Option Addr) (ca ck:Nat) (l:List El) (A:List Ch) (h:Zk) (w:World) (hl:Z5 El.cells 4 w (.slice va l.length ca) l) (hln:l.length≤1000) (hv:Z5 Ch.cells 5 w (.slice vk A.length ck) A) (hAl:A.length≤1000) (hA:Zo h A) (hk:ZZ h) :
  Calls Tryz.prog 53 #[.slice va l.length ca,.slice vk A.length ck] w fun e w'=>Rz l h A w e w':=by
 obtain ⟨i0,hi,hz0,hz1,hz2⟩:=info_parts Xw
 have HL:=Lib.hid hl
 have HV:=Lib.hid hv
 have HA:=Jh (And.intro hA hk)
 clear hl hv hA hk
 go_enter Tryz.func53,Tryz.ntmps53
 have hlit:=Z2d (ea:=Ch.cells) (k:=5) (e:=53) w
 obtain ⟨v2,w2,hr2,hown2,hx2⟩:=S9 (P:=Tryz.prog) (ea:=Ch.cells) 48 48 i0 (.agg #[.int .i64 0,.int .i64 0,.int .i64 0,.int .i64 0,.string ⟨#[]⟩]) 48 Wi hi hz0 hz1 hz2 rfl (by omega) (fun _=>rfl) (fun x u hu=>by simp[Ch.cells] at hu;rcases hu with rfl|rfl|rfl|rfl|rfl <;> rfl) hlit (HV.out.below ((Below.refl w.heap.size w).alloc (Nat.le_refl _) (.cells #[] 53))) (by unfold maxLen;simp;omega) (by simp;omega) (by simp)
 rw[List.nil_append] at hown2
 have hb2:Below w.heap.size w w2:=Ext.new ((Below.refl w.heap.size w).alloc (Nat.le_refl _) (.cells #[] 53)) hx2 (fun i hi _ e=>by simp[Value.ownBlock] at e;omega) (by simp)
 have hnd:A.Pairwise (fun a b=>a.block≠b.block):=HA.out.1.2.imp (fun {a b} h e=>by rw[e] at h;exact Zm _ h)
 have HG0:Hid (Wq w l A 0 0 v2 A w2):=Lib.hid ⟨hown2,(Gth.start hnd).mono (fun s=>Z2U.symm),by omega,hb2⟩
 clear hlit hown2 hx2 hb2 hnd
 obtain ⟨_,_,e0,hca,hcm,-⟩:=HL.out
 cases e0
 obtain ⟨_,_,e0,hcka,hckm,-⟩:=HV.out
 cases e0
 unfold maxLen at hcm hckm
 go_wp2_with (at_builtin;refine Lib.wpList_append_run _ rfl _ _ _ _ rfl _ _ rfl rfl _ _ hr2 ?_)
 clear hr2
 go_wp2_with fail
 go_loopg [5,6] l.length (fun g ov iv wx=>∃ (k:Nat) (s:Sl) (C:List Ch),g=l.length - k∧k≤l.length∧iv=.int .i64 k∧ov=.slice s.a C.length s.cap∧Hid (Wq w l A k 0 ov C wx))
 case atStart =>
  obtain ⟨a3,c3,e3,-,-,-⟩:=(HG0.out.1).slice (fun _=>rfl)
  exact ⟨0,⟨a3,0,c3⟩,A,rfl,Nat.zero_le _,rfl,e3,HG0⟩
 case round =>
  obtain ⟨k,s,C,hg,hk,rfl,rfl,HGI⟩:=hrel
  have HG:=Lib.hid hg
  clear hg
  have hcl:=HGI.out.2.2.1
  by_cases hlt:k<l.length
  ·obtain ⟨x,hx⟩:∃ x,l[k]?=some x:=⟨_,List.getElem?_eq_getElem hlt⟩
   have hkk:(k:Int)<(l.length:Int):=by omega
   have hk0:(0:Int)≤(k:Int):=by omega
   have hwz:=HGI.out.2.2.2.size
   obtain ⟨ba,oa,ca1,e1,hcs⟩:=(HL.out.below HGI.out.2.2.2).ecells20 (by intro e;rw[e] at hlt;simp at hlt)
   cases e1
   obtain ⟨y0,y1,y2,y3⟩:=hcs k _ hx
   have HXX:=Lib.hid hx
   obtain ⟨⟨xn,xr⟩,xc,xg⟩:=x
   simp only at y0 y1 y2 y3
   clear hx hcs
   by_cases hc:xc=0
   ·subst hc
    cases xg with
    | false =>
     go_wp2_with fail
     refine (RV s.a s.cap C xn xr w.heap.size wr HGI.out.1 hwz (by omega)).mono ?_
     rintro e w5 ⟨v5,rfl,ho5,hx5⟩
     have HGN:=Jh (HGI.out.el HXX.out rfl ho5 hx5)
     obtain ⟨a5,c5,rfl,-,-,-⟩:=ho5.slice (fun _=>rfl)
     clear ho5 hx5 y0 y1 y2 y3
     go_wp2_with fail
     go_roundg (l.length - (k+1))
     case measure=>rw[HG.out];omega
     case rel=>exact ⟨k+1,⟨a5,0,c5⟩,_,rfl,hlt,by go_num,rfl,HGN⟩
    | true =>
     have HGN:=Jh (HGI.out.skip HXX.out (by simp[Yg]))
     clear HXX
     go_wp2_with fail
     go_roundg (l.length - (k+1))
     case measure=>rw[HG.out];omega
     case rel=>exact ⟨k+1,s,C,rfl,hlt,by go_num,rfl,HGN⟩
   ·have HGN:=Jh (HGI.out.skip HXX.out (by simp[Yg,hc]))
    clear HXX
    go_wp2_with fail
    go_roundg (l.length - (k+1))
    case measure=>rw[HG.out];omega
    case rel=>exact ⟨k+1,s,C,rfl,hlt,by go_num,rfl,HGN⟩
  ·obtain rfl:k=l.length:=by omega
   have hkk:¬ (l.length:Int)<(l.length:Int):=by omega
   have HG1:=HGI
   clear hlt hk HGI hcl
   go_wp2_with fail
   go_loopg [5,7] A.length (fun g ov iv wx=>∃ (k:Nat) (s:Sl) (C:List Ch),g=A.length - k∧k≤A.length∧iv=.int .i64 k∧ov=.slice s.a C.length s.cap∧Hid (Wq w l A l.length k ov C wx))
   case atStart=>exact ⟨0,s,C,rfl,Nat.zero_le _,rfl,rfl,HG1⟩
   case round =>
    obtain ⟨k,s,C,hg,hk,rfl,rfl,HGI⟩:=hrel
    have HG:=Lib.hid hg
    clear hg
    have hcl:=HGI.out.2.2.1
    have hwz:=HGI.out.2.2.2.size
    by_cases hlt:k<A.length
    ·obtain ⟨x,hx⟩:∃ x,A[k]?=some x:=⟨_,List.getElem?_eq_getElem hlt⟩
     have hkk:(k:Int)<(A.length:Int):=by omega
     have hk0:(0:Int)≤(k:Int):=by omega
     obtain ⟨ba,oa,ca1,e1,hcs⟩:=(HV.out.below HGI.out.2.2.2).dcells (by intro e;rw[e] at hlt;simp at hlt)
     cases e1
     obtain ⟨y0,y1,y2,y3,y4⟩:=hcs k _ hx
     have HXX:=Lib.hid hx
     obtain ⟨xb,⟨un,ur⟩,xk⟩:=x
     simp only at y0 y1 y2 y3 y4
     clear hx hcs
     go_wp2_with fail
     refine (RV s.a s.cap C un ur w.heap.size wr HGI.out.1 hwz (by omega)).mono ?_
     rintro e w5 ⟨v5,rfl,ho5,hx5⟩
     have HGN:=Jh (HGI.out.ch HXX.out ho5 hx5)
     obtain ⟨a5,c5,rfl,-,-,-⟩:=ho5.slice (fun _=>rfl)
     clear ho5 hx5 y0 y1 y2 y3 y4
     go_wp2_with fail
     go_roundg (A.length - (k+1))
     case measure=>rw[HG.out];omega
     case rel=>exact ⟨k+1,⟨a5,0,c5⟩,_,rfl,hlt,by go_num,rfl,HGN⟩
    ·obtain rfl:k=A.length:=by omega
     have hkk:¬ (A.length:Int)<(A.length:Int):=by omega
     have HG2:=HGI
     clear hlt hk HGI HG1
     go_wp2_with fail
     have hw2:=HG2.out.2.2.2.size
     have hCl:C.length≤3000:=by have:=HG2.out.2.2.1;omega
     have HCL:=Lib.hid HG2.out.2.2.1
     obtain ⟨sa,sn,sc⟩:=s
     simp only at HG2 ⊢
     have hnb:C.Pairwise (fun a b=>a.block≠b.block):=HG2.out.2.1.nodup
     have HNB:=Lib.hid hnb
     clear hnb
     have HGT:=Lib.hid HG2.out.2.1
     obtain ⟨_,_,e0,hcq,hcqm,-⟩:=(HG2.out.1).slice (fun _=>rfl)
     cases e0
     unfold maxLen at hcqm
     go_loopg [8] C.length (fun g iv wx=>∃ (i:Nat) (zs:List Ch),g=C.length+1 - i∧1≤i∧i≤C.length+1∧iv=.int .i64 i∧Hid (zs.Perm C∧(zs.take i).Pairwise BLt∧Own Ch.cells 5 53 w.heap.size wx (.slice sa C.length sc) zs∧Below w.heap.size w wx))
     case atStart=>exact ⟨1,C,by omega,Nat.le_refl _,by omega,rfl,Lib.hid ⟨List.Perm.refl _,by cases C with|nil=>exact List.Pairwise.nil|cons a r=>simp,HG2.out.1,HG2.out.2.2.2⟩⟩
     case round =>
      obtain ⟨i,zs0,hg,hi1,hi2,rfl,HZ⟩:=hrel
      have HGG:=Lib.hid hg
      clear hg HG2
      by_cases hlt:i<C.length
      ·obtain ⟨x,hx⟩:∃ x,zs0[i]?=some x:=⟨_,List.getElem?_eq_getElem (by rw[HZ.out.1.length_eq];exact hlt)⟩
       obtain ⟨g3,rfl⟩:∃ g,sa=some ⟨g,0,none⟩:=by
        rcases HZ.out.2.2.1.eq_slice with ⟨_,e⟩|⟨g,c,e,_⟩
        ·have:=HZ.out.1.length_eq;rw[e,List.length_nil] at this;omega
        ·simp only[Value.slice.injEq] at e;exact ⟨g,e.1⟩
       have hkk:(i:Int)<(C.length:Int):=by omega
       have hS:(zs0.take i).length=i:=by rw[List.length_take,HZ.out.1.length_eq];omega
       have HSS:=Jh (And.intro hx hS)
       have hin0:=Vd HZ.out.2.1 x
       rw[hS] at hin0
       have hzs:zs0.take i++[x]++zs0.drop (i+1)=zs0:=by
        rw[show zs0.take i++[x]=zs0.take (i+1) by rw[List.take_add_one,hx];rfl,List.take_append_drop]
       have HI0:Hid (Wg BLt (zs0.take i++[x]) (zs0.take i++[x]) i∧Own Ch.cells 5 53 w.heap.size wr (.slice (some ⟨g3,0,none⟩) C.length sc) (zs0.take i++[x]++zs0.drop (i+1))∧Below w.heap.size w wr):=Lib.hid ⟨hin0,by rw[hzs];exact HZ.out.2.2.1,HZ.out.2.2.2⟩
       clear hx hS hin0 hzs
       go_wp2_with fail
       go_loopg [9] i (fun g jv wr=>∃ (j:Nat) (ys:List Ch),g=j∧j≤i∧jv=.int .i64 j∧ys.length=i+1∧Hid (ys[j]?=some x)∧Hid (Wg BLt (zs0.take i++[x]) ys j∧Own Ch.cells 5 53 w.heap.size wr (.slice (some ⟨g3,0,none⟩) C.length sc) (ys++zs0.drop (i+1))∧Below w.heap.size w wr))
       case atStart=>exact ⟨i,_,rfl,Nat.le_refl _,rfl,by rw[List.length_append,HSS.out.2];rfl,Jh (by rw[List.getElem?_append_right (by rw[HSS.out.2];omega),HSS.out.2,Nat.sub_self];rfl),HI0⟩
       case round =>
        obtain ⟨j,ys,hg,hj,rfl,hyl,hyx,hV⟩:=hrel
        have HGJ:=Lib.hid hg
        clear hg
        obtain ⟨zs,hzs⟩:=Je (ys++zs0.drop (i+1))
        have hzl:zs.length=C.length:=by rw[←hzs,List.length_append,hyl,List.length_drop,HZ.out.1.length_eq];omega
        have HZS:=Lib.hid hzs
        have hdone:∀ W,Below wr.heap.size wr W→ys.Pairwise BLt→Hid (zs.Perm C∧(zs.take (i+1)).Pairwise BLt∧Own Ch.cells 5 53 w.heap.size W (.slice (some ⟨g3,0,none⟩) C.length sc) zs∧Below w.heap.size w W):=fun W hW h=>Jh (by
         have h1:=Z0p HZ.out.1 HSS.out.1 hV.out.1.perm hyl h
         rw[HZS.out] at h1
         have h2:=hV.out.2.1
         rw[HZS.out] at h2
         exact ⟨h1.1,h1.2,h2.ext (Ext.of_below (S:=fun _=>False) hW) (fun _ _ f=>f),hV.out.2.2.trans (hW.mono hV.out.2.2.size)⟩)
        clear hzs
        by_cases hj0:0<j
        ·obtain ⟨p,hp⟩:∃ p,ys[j]?=some p:=⟨_,List.getElem?_eq_getElem (by omega)⟩
         obtain ⟨q,hq⟩:∃ q,ys[j - 1]?=some q:=⟨_,List.getElem?_eq_getElem (by omega)⟩
         have hpz:zs[j]?=some p:=by rw[←HZS.out,List.getElem?_append_left (by omega)];exact hp
         have hqz:zs[j - 1]?=some q:=by rw[←HZS.out,List.getElem?_append_left (by omega)];exact hq
         have ho:=hV.out.2.1
         rw[HZS.out] at ho
         have p0:=ho.cellI (j:=0) Ch.len hpz rfl
         have p1:=ho.cellI (j:=1) Ch.len hpz rfl
         have q0:=ho.cellI (j:=0) Ch.len hqz rfl
         have q1:=ho.cellI (j:=1) Ch.len hqz rfl
         simp only[Nat.add_zero] at p0 q0
         have hj1:(0:Int)<(j:Int):=by omega
         have HPQ:=Jh (And.intro hpz hqz)
         have HPY:=Jh (And.intro hp hq)
         have hcm:=X4 p.block.n p.block.r q.block.n q.block.r
         obtain ⟨cv,hcv⟩:=Je (Yd ⟨p.block.n,p.block.r⟩ ⟨q.block.n,q.block.r⟩)
         rw[hcv] at hcm
         have HCM:=Lib.hid hcm
         have hvv:=WA p.block q.block
         rw[show Yd p.block q.block=cv from hcv] at hvv
         have HVV:=Lib.hid hvv
         have hja:(0:Int)≤(j:Int):=by omega
         have hjb:(j:Int)<(C.length:Int):=by omega
         obtain ⟨jq,hjq⟩:∃ jq:Nat,j - 1=jq:=⟨_,rfl⟩
         rw[hjq] at q0 q1
         have hjc:(0:Int)≤(jq:Int):=by omega
         have hjd:(jq:Int)<(C.length:Int):=by omega
         have hje:IntKind.i64.wrap ((j:Int) - 1)=(jq:Int):=by rw[show (j:Int) - 1=(jq:Int) by omega];exact IntWalk.i64_in _ (by omega)
         have HJQ:=Lib.hid hjq
         clear hjq ho hp hq hcm hcv hvv hpz hqz
         go_upto_region 15 with fail
         go_region_held3 (fun W=>W.cell? ⟨g3,j*5,none⟩=some (.int .i64 p.block.n)∧W.cell? ⟨g3,j*5+1,none⟩=some (.int .i64 p.block.r)∧W.cell? ⟨g3,jq*5,none⟩=some (.int .i64 q.block.n)∧W.cell? ⟨g3,jq*5+1,none⟩=some (.int .i64 q.block.r)) (first|exact ⟨p0,p1,q0,q1⟩|exact ⟨Z0 b5 p0,Z0 b5 p1,Z0 b5 q0,Z0 b5 q1⟩) (first|(go_at_call 23;((with_reducible refine (HCM.out _).mono ?_);rintro e w5 ⟨rfl,b5⟩;simp only[Y4,ZU] at b5)))
         have HB5:=Lib.hid b5
         clear b5 p0 p1 q0 q1 hja hjb hjc hjd hje
         have hjz:((j - 1:Nat):Int)=(j:Int) - 1:=by omega
         by_cases hlt2:cv<0
         ·have HSW:=Jh (hV.out.1.swap hj0 HPY.out.1 HPY.out.2 (HVV.out.1 hlt2))
          have ho:=hV.out.2.1.ext (Ext.of_below (S:=fun _=>False) HB5.out) (fun _ _ h=>h)
          rw[HZS.out] at ho
          have hbx:=hV.out.2.2.trans (HB5.out.mono hV.out.2.2.size)
          clear hV hdone HCM HVV HB5
          have p0:=ho.cellI (j:=0) Ch.len HPQ.out.1 rfl
          have p1:=ho.cellI (j:=1) Ch.len HPQ.out.1 rfl
          have p2:=ho.cellI (j:=2) Ch.len HPQ.out.1 rfl
          have p3:=ho.cellI (j:=3) Ch.len HPQ.out.1 rfl
          have p4:=ho.cellI (j:=4) Ch.len HPQ.out.1 rfl
          simp only[Nat.add_zero] at p0
          have hgb:=ho.blk g3 rfl
          have hoy:=ho.alloc (.cells #[.int .i64 p.block.n,.int .i64 p.block.r,.int .i64 p.under.n,.int .i64 p.under.r,.string p.key] 53)
          have hby:=hbx.alloc hbx.size (.cells #[.int .i64 p.block.n,.int .i64 p.block.r,.int .i64 p.under.n,.int .i64 p.under.r,.string p.key] 53)
          have z0:(w5.alloc (.cells #[.int .i64 p.block.n,.int .i64 p.block.r,.int .i64 p.under.n,.int .i64 p.under.r,.string p.key] 53)).cell? ⟨w5.heap.size,0,none⟩=some (.int .i64 p.block.n):=by go_simp
          have z1:(w5.alloc (.cells #[.int .i64 p.block.n,.int .i64 p.block.r,.int .i64 p.under.n,.int .i64 p.under.r,.string p.key] 53)).cell? ⟨w5.heap.size,1,none⟩=some (.int .i64 p.block.r):=by go_simp
          have z2:(w5.alloc (.cells #[.int .i64 p.block.n,.int .i64 p.block.r,.int .i64 p.under.n,.int .i64 p.under.r,.string p.key] 53)).cell? ⟨w5.heap.size,2,none⟩=some (.int .i64 p.under.n):=by go_simp
          have z3:(w5.alloc (.cells #[.int .i64 p.block.n,.int .i64 p.block.r,.int .i64 p.under.n,.int .i64 p.under.r,.string p.key] 53)).cell? ⟨w5.heap.size,3,none⟩=some (.int .i64 p.under.r):=by go_simp
          have z4:(w5.alloc (.cells #[.int .i64 p.block.n,.int .i64 p.block.r,.int .i64 p.under.n,.int .i64 p.under.r,.string p.key] 53)).cell? ⟨w5.heap.size,4,none⟩=some (.string p.key):=by go_simp
          have HOY:=Jh (And.intro hoy hby)
          clear hoy hby
          go_upto_region 18 with fail
          generalize w5.alloc (.cells #[.int .i64 p.block.n,.int .i64 p.block.r,.int .i64 p.under.n,.int .i64 p.under.r,.string p.key] 53)=wy at *
          clear p0 p1 p2 p3 p4
          obtain ⟨hoy,hby⟩:=HOY.out
          have q0:=hoy.cellI (j:=0) Ch.len HPQ.out.2 rfl
          have f0:=hoy.freeI (j*5)
          have r0:=hoy.cellI (j:=0) Ch.len HPQ.out.1 rfl
          have q1:=hoy.cellI (j:=1) Ch.len HPQ.out.2 rfl
          have f1:=hoy.freeI (j*5+1)
          have r1:=hoy.cellI (j:=1) Ch.len HPQ.out.1 rfl
          have q2:=hoy.cellI (j:=2) Ch.len HPQ.out.2 rfl
          have f2:=hoy.freeI (j*5+2)
          have r2:=hoy.cellI (j:=2) Ch.len HPQ.out.1 rfl
          have q3:=hoy.cellI (j:=3) Ch.len HPQ.out.2 rfl
          have f3:=hoy.freeI (j*5+3)
          have r3:=hoy.cellI (j:=3) Ch.len HPQ.out.1 rfl
          have q4:=hoy.cellI (j:=4) Ch.len HPQ.out.2 rfl
          have f4:=hoy.freeI (j*5+4)
          have r4:=hoy.cellI (j:=4) Ch.len HPQ.out.1 rfl
          simp only[Nat.add_zero] at q0 r0
          have ho1:Own Ch.cells 5 53 w.heap.size (((((wy.setCell ⟨g3,j*5,none⟩ (.int .i64 q.block.n)).setCell ⟨g3,j*5+1,none⟩ (.int .i64 q.block.r)).setCell ⟨g3,j*5+2,none⟩ (.int .i64 q.under.n)).setCell ⟨g3,j*5+3,none⟩ (.int .i64 q.under.r)).setCell ⟨g3,j*5+4,none⟩ (.string q.key)) (.slice (some ⟨g3,0,none⟩) C.length sc) (zs.set j q):=X9 (y:=q) Ch.len (by omega) hzl hoy HPQ.out.1
          have hb1:Below w.heap.size _ (((((wy.setCell ⟨g3,j*5,none⟩ (.int .i64 q.block.n)).setCell ⟨g3,j*5+1,none⟩ (.int .i64 q.block.r)).setCell ⟨g3,j*5+2,none⟩ (.int .i64 q.under.n)).setCell ⟨g3,j*5+3,none⟩ (.int .i64 q.under.r)).setCell ⟨g3,j*5+4,none⟩ (.string q.key)):=(((((hby.setCell hgb.1 _).setCell hgb.1 _).setCell hgb.1 _).setCell hgb.1 _).setCell hgb.1 _)
          have hx1:Ext (·=g3) wy (((((wy.setCell ⟨g3,j*5,none⟩ (.int .i64 q.block.n)).setCell ⟨g3,j*5+1,none⟩ (.int .i64 q.block.r)).setCell ⟨g3,j*5+2,none⟩ (.int .i64 q.under.n)).setCell ⟨g3,j*5+3,none⟩ (.int .i64 q.under.r)).setCell ⟨g3,j*5+4,none⟩ (.string q.key)):=X1 (o:=j*5) (Ch.cells q) 0 wy
          have hne:¬ w5.heap.size=g3:=by omega
          replace z0:=hx1.keep z0 hne
          replace z1:=hx1.keep z1 hne
          replace z2:=hx1.keep z2 hne
          replace z3:=hx1.keep z3 hne
          replace z4:=hx1.keep z4 hne
          have HO1:=Jh (And.intro ho1 hb1)
          clear ho1 hb1 hx1 hoy hby HOY
          have HZ0:=Lib.hid z0
          have HZ1:=Lib.hid z1
          have HZ2:=Lib.hid z2
          have HZ3:=Lib.hid z3
          have HZ4:=Lib.hid z4
          clear z0 z1 z2 z3 z4
          go_upto_region 19 with fail
          generalize (((((wy.setCell ⟨g3,j*5,none⟩ (.int .i64 q.block.n)).setCell ⟨g3,j*5+1,none⟩ (.int .i64 q.block.r)).setCell ⟨g3,j*5+2,none⟩ (.int .i64 q.under.n)).setCell ⟨g3,j*5+3,none⟩ (.int .i64 q.under.r)).setCell ⟨g3,j*5+4,none⟩ (.string q.key))=wz at *
          clear q0 f0 r0 q1 f1 r1 q2 f2 r2 q3 f3 r3 q4 f4 r4
          obtain ⟨ho1,hb1⟩:=HO1.out
          have z0:=HZ0.out
          have z1:=HZ1.out
          have z2:=HZ2.out
          have z3:=HZ3.out
          have z4:=HZ4.out
          have f0:=ho1.freeI ((j - 1)*5)
          have f1:=ho1.freeI ((j - 1)*5+1)
          have f2:=ho1.freeI ((j - 1)*5+2)
          have f3:=ho1.freeI ((j - 1)*5+3)
          have f4:=ho1.freeI ((j - 1)*5+4)
          have hq1:(zs.set j q)[j - 1]?=some q:=by rw[List.getElem?_set,if_neg (by omega)];exact HPQ.out.2
          have e0:=ho1.cellI (j:=0) Ch.len hq1 rfl
          have e1:=ho1.cellI (j:=1) Ch.len hq1 rfl
          have e2:=ho1.cellI (j:=2) Ch.len hq1 rfl
          have e3:=ho1.cellI (j:=3) Ch.len hq1 rfl
          have e4:=ho1.cellI (j:=4) Ch.len hq1 rfl
          simp only[Nat.add_zero] at e0
          have ho2:Own Ch.cells 5 53 w.heap.size (((((wz.setCell ⟨g3,(j - 1)*5,none⟩ (.int .i64 p.block.n)).setCell ⟨g3,(j - 1)*5+1,none⟩ (.int .i64 p.block.r)).setCell ⟨g3,(j - 1)*5+2,none⟩ (.int .i64 p.under.n)).setCell ⟨g3,(j - 1)*5+3,none⟩ (.int .i64 p.under.r)).setCell ⟨g3,(j - 1)*5+4,none⟩ (.string p.key)) (.slice (some ⟨g3,0,none⟩) C.length sc) (YL zs j p q):=X9 (y:=p) Ch.len (by omega) (by rw[List.length_set];exact hzl) ho1 hq1
          have hb2:Below w.heap.size _ (((((wz.setCell ⟨g3,(j - 1)*5,none⟩ (.int .i64 p.block.n)).setCell ⟨g3,(j - 1)*5+1,none⟩ (.int .i64 p.block.r)).setCell ⟨g3,(j - 1)*5+2,none⟩ (.int .i64 p.under.n)).setCell ⟨g3,(j - 1)*5+3,none⟩ (.int .i64 p.under.r)).setCell ⟨g3,(j - 1)*5+4,none⟩ (.string p.key)):=(((((hb1.setCell hgb.1 _).setCell hgb.1 _).setCell hgb.1 _).setCell hgb.1 _).setCell hgb.1 _)
          clear ho1 hb1 hq1 HO1 HZ0 HZ1 HZ2 HZ3 HZ4
          have HN:Hid (Wg BLt (zs0.take i++[x]) (YL ys j p q) (j - 1)∧Own Ch.cells 5 53 w.heap.size (((((wz.setCell ⟨g3,(j - 1)*5,none⟩ (.int .i64 p.block.n)).setCell ⟨g3,(j - 1)*5+1,none⟩ (.int .i64 p.block.r)).setCell ⟨g3,(j - 1)*5+2,none⟩ (.int .i64 p.under.n)).setCell ⟨g3,(j - 1)*5+3,none⟩ (.int .i64 p.under.r)).setCell ⟨g3,(j - 1)*5+4,none⟩ (.string p.key)) (.slice (some ⟨g3,0,none⟩) C.length sc) (YL ys j p q++zs0.drop (i+1))∧Below w.heap.size w (((((wz.setCell ⟨g3,(j - 1)*5,none⟩ (.int .i64 p.block.n)).setCell ⟨g3,(j - 1)*5+1,none⟩ (.int .i64 p.block.r)).setCell ⟨g3,(j - 1)*5+2,none⟩ (.int .i64 p.under.n)).setCell ⟨g3,(j - 1)*5+3,none⟩ (.int .i64 p.under.r)).setCell ⟨g3,(j - 1)*5+4,none⟩ (.string p.key))):=Lib.hid ⟨HSW.out,by rw[←Z1L p q (by omega),HZS.out];exact ho2,hb2⟩
          clear ho2 hb2 ho hbx hgb hne
          go_wp2_with fail
          go_roundg (j - 1)
          case measure=>rw[HGJ.out];omega
          case rel=>exact ⟨j - 1,_,rfl,by omega,by simp;omega,by rw[Vz];exact hyl,Jh (by rw[Xu ys hj0 HPY.out.1 HPY.out.2,if_pos rfl,←HPY.out.1,hyx.out]),HN⟩
         ·have HN1:=hdone _ HB5.out (hV.out.1.stands VI (fun x1 y1 _ hx1 hy1=>by
           rw[HPY.out.1] at hx1;rw[HPY.out.2] at hy1;cases hx1;cases hy1
           have hpm:zs.Perm C:=by
            have h2:=hV.out.1.perm.append_right (zs0.drop (i+1))
            rw[HZS.out,show zs0.take i++[x]=zs0.take (i+1) by rw[List.take_add_one,HSS.out.1];rfl,List.take_append_drop] at h2
            exact h2.trans HZ.out.1
           have hnz:zs.Pairwise (fun a b=>a.block≠b.block):=hpm.symm.pairwise HNB.out (fun h e=>h e.symm)
           have hne:=X2.1 hnz (j - 1) j q p (by omega) HPQ.out.2 HPQ.out.1
           rcases Y8 q.block p.block with t|t|t
           ·exact t
           ·exact absurd t hne
           ·exact absurd (HVV.out.2 t) hlt2))
          clear hV hdone HVV HCM
          go_wp2_with fail
          go_roundg (C.length+1 - (i+1))
          case measure=>rw[HGG.out];omega
          case rel=>exact ⟨i+1,zs,rfl,by omega,by omega,by go_num,HN1⟩
        ·have HN0:=Jh (fun n=>(hdone (wr.drewN n) (below_drewN (Below.refl _ _) n) (hV.out.1.stands VI (fun x y h0 _ _=>absurd h0 hj0))).out)
         have hj1:¬ (0:Int)<(j:Int):=by omega
         clear hV hdone
         go_upto_region 15 with fail
         go_quiet (fail)
         have HN1:=Jh (HN0.out nq)
         go_wp2_with fail
         go_roundg (C.length+1 - (i+1))
         case measure=>rw[HGG.out];omega
         case rel=>exact ⟨i+1,zs,rfl,by omega,by omega,by go_num,HN1⟩
      ·have hkk:¬ (i:Int)<(C.length:Int):=by omega
       have hti:zs0.take C.length=zs0.take i:=by rw[List.take_of_length_le (by rw[HZ.out.1.length_eq];exact Nat.le_refl _),List.take_of_length_le (by rw[HZ.out.1.length_eq];omega)]
       have HF:=Jh (Qh HA.out.1 HA.out.2 HGT.out HCL.out HZ.out.1 (by rw[hti];exact HZ.out.2.1) HZ.out.2.2.1 HZ.out.2.2.2)
       clear hti
       go_wp2_with fail
       go_ret
       exact HF.out
structure Rw where
 va:Option Addr
 ca:Nat
 vk:Option Addr
 ck:Nat
 gp:Nat
 vb:Option Addr
 cb:Nat
 l:List El
 D:List Ch
 ms:List OpD
def Rw.val (b:Rw):Value:=.agg #[.slice b.va b.l.length b.ca,.slice b.vk b.D.length b.ck,.pointer (some ⟨b.gp,0,none⟩),.slice b.vb b.ms.length b.cb]
structure WIs (W:World) (b:Rw) (V:Vw):Prop where
 el:Z5 El.cells 4 W (.slice b.va b.l.length b.ca) b.l
 al:Z5 Ch.cells 5 W (.slice b.vk b.D.length b.ck) b.D
 op:Z5 OpD.cells 26 W (.slice b.vb b.ms.length b.cb) b.ms
 ln:b.l.length≤990∧b.ms.length≤1000∧b.D.length≤1000
 ao:Zo V.H b.D
 ac:XI V.H
 ul:XO b.l
 rg:∀ W',Below W.heap.size W W'→∀ u:St,Calls Tryz.prog 108 #[.pointer (some ⟨b.gp,0,none⟩),.agg #[.int .i64 u.n,.int .i64 u.r]] W' fun e w'=>XQ W' (V.regs u) e w'
 lv:∀ u,V.live u=X6 b.l u
 tx:∀ u s,YD b.l u=some s→V.txt u=Yb b.l b.ms s.lo s.hi
theorem WIs.below {W W':World} {b:Rw} {V:Vw} (h:WIs W b V) (hb:Below W.heap.size W W'):WIs W' b V :=
 ⟨h.el.below hb,h.al.below hb,h.op.below hb,h.ln,h.ao,h.ac,h.ul,fun W2 h2 u=>h.rg W2 (hb.trans (h2.mono hb.size)) u,h.lv,h.tx⟩
def RwB (W:World) (x:Nat) (b:Rw):Prop:=W.heap[x]?=some (.cells #[.slice b.va b.l.length b.ca,.slice b.vk b.D.length b.ck,.pointer (some ⟨b.gp,0,none⟩),.slice b.vb b.ms.length b.cb] 121 (0,0))
theorem RwB.ext {S:Nat→Prop} {W W':World} {x:Nat} {b:Rw} (h:RwB W x b) (hx:Ext S W W') (hn:¬ S x):RwB W' x b:=(hx.block x (Array.getElem?_eq_some_iff.1 (show W.heap[x]?=_ from h)).1 hn).trans h
theorem RwB.cells {W:World} {x:Nat} {b:Rw} (h:RwB W x b):W.cell? ⟨x,0,none⟩=some (.slice b.va b.l.length b.ca)∧W.cell? ⟨x,1,none⟩=some (.slice b.vk b.D.length b.ck)∧W.cell? ⟨x,2,none⟩=some (.pointer (some ⟨b.gp,0,none⟩))∧W.cell? ⟨x,3,none⟩=some (.slice b.vb b.ms.length b.cb):=by
 have h:=show W.heap[x]?=_ from h
 refine ⟨?_,?_,?_,?_⟩ <;> simp[World.cell?,h]
def UD (V:Vw) (b:Rw) (n:Nat):Prop:=∀ (u:St) (W:World),WIs W b V→Calls Tryz.prog 56 #[b.val,.agg #[.int .i64 u.n,.int .i64 u.r],.int .i64 (n:Int)] W fun e w'=>Vq V n u W e w'
def QQ (V:Vw) (b:Rw) (n:Nat):Prop:=∀ (u:St) (s:Spn) (W:World),WIs W b V→YD b.l u=some s→Calls Tryz.prog 85 #[b.val,.agg #[.int .i64 u.n,.int .i64 u.r],.int .i64 (n:Int)] W fun e w'=>RG V n u W e w'
theorem Z5.scells {w:World} {v:Value} {l:List St} (h:Z5 St.cells 2 w v l) (hne:l≠[]):∃ b o cap,v=.slice (some ⟨b,o,none⟩) l.length cap∧∀ i (x:St),l[i]?=some x→w.cell? ⟨b,o+i*2,none⟩=some (.int .i64 x.n)∧w.cell? ⟨b,o+i*2+1,none⟩=some (.int .i64 x.r):=by
 obtain ⟨a,cap,rfl,_,_,h4⟩:=h
 obtain ⟨b,o,rfl,h6⟩:=h4 hne
 exact ⟨b,o,cap,rfl,fun i x hi=>⟨h6 i x hi 0 _ rfl,h6 i x hi 1 _ rfl⟩⟩
theorem Z1Y (V:Vw) (b:Rw) (n:Nat) (hn:n≤100000) (hrow:UD V b n) (hnode:QQ V b n):UD V b (n+1):=by
 intro u w hB
 obtain ⟨dv,hdv⟩:∃ dv:Int,dv=((n+1:Nat):Int):=⟨_,rfl⟩
 rw[←hdv]
 have hd0:(0:Int)<dv:=by omega
 have hdw:IntKind.i64.wrap (dv - 1)=(n:Int):=by rw[show dv - 1=(n:Int) by omega];exact IntWalk.i64_in _ (by omega)
 obtain ⟨m,he⟩:=hB.ac u
 have hB0:Below w.heap.size w ((w.alloc (.cells #[.slice b.va b.l.length b.ca,.slice b.vk b.D.length b.ck,.pointer (some ⟨b.gp,0,none⟩),.slice b.vb b.ms.length b.cb] 121)).alloc (.cells #[.int .i64 u.n,.int .i64 u.r] 23)):=((Below.refl _ _).alloc (Nat.le_refl _) _).alloc (by simp) _
 have hwb:RwB ((w.alloc (.cells #[.slice b.va b.l.length b.ca,.slice b.vk b.D.length b.ck,.pointer (some ⟨b.gp,0,none⟩),.slice b.vb b.ms.length b.cb] 121)).alloc (.cells #[.int .i64 u.n,.int .i64 u.r] 23)) w.heap.size b:=(Below.heap_alloc _ _ _ (by simp)).trans (World.alloc_heap_new w _)
 have hz1:((w.alloc (.cells #[.slice b.va b.l.length b.ca,.slice b.vk b.D.length b.ck,.pointer (some ⟨b.gp,0,none⟩),.slice b.vb b.ms.length b.cb] 121)).alloc (.cells #[.int .i64 u.n,.int .i64 u.r] 23)).heap.size=w.heap.size+2:=by simp
 have x0:((w.alloc (.cells #[.slice b.va b.l.length b.ca,.slice b.vk b.D.length b.ck,.pointer (some ⟨b.gp,0,none⟩),.slice b.vb b.ms.length b.cb] 121)).alloc (.cells #[.int .i64 u.n,.int .i64 u.r] 23)).cell? ⟨w.heap.size+1,0,none⟩=some (.int .i64 u.n):=by go_simp
 have x1:((w.alloc (.cells #[.slice b.va b.l.length b.ca,.slice b.vk b.D.length b.ck,.pointer (some ⟨b.gp,0,none⟩),.slice b.vb b.ms.length b.cb] 121)).alloc (.cells #[.int .i64 u.n,.int .i64 u.r] 23)).cell? ⟨w.heap.size+1,1,none⟩=some (.int .i64 u.r):=by go_simp
 have HB0:=Lib.hid hB0
 have HW1:=Jh (hB.below hB0)
 have HE:=Lib.hid he
 have HRW:=Lib.hid hrow
 have HNODE:=Lib.hid hnode
 have HLE:=Jh (Vw.row_le hB.ao (n:=n+1) he)
 have HLN:=Lib.hid hB.ln
 obtain ⟨w0,w1',w2',w3'⟩:=hwb.cells
 have HWB:=Lib.hid hwb
 unfold Rw.val
 clear hB hB0 he hrow hnode hdv hwb
 go_enter Tryz.func56,Tryz.ntmps56
 go_upto_region 2 with fail
 generalize (w.alloc (.cells #[.slice b.va b.l.length b.ca,.slice b.vk b.D.length b.ck,.pointer (some ⟨b.gp,0,none⟩),.slice b.vb b.ms.length b.cb] 121)).alloc (.cells #[.int .i64 u.n,.int .i64 u.r] 23)=w1 at *
 have hz1l:w.heap.size+2≤w1.heap.size:=by omega
 clear hz1
 go_wp2_with fail
 refine (TE _ b.D u.n u.r w1 HW1.out.al (by have:=HLN.out;omega) HW1.out.ao).mono ?_
 rintro e w2 ⟨v2,K,rfl,hown2,hk,b2⟩
 have hkc:Yl V.H u=K:=Tr hk
 have HROW:Hid (V.row (n+1) u=K.flatMap fun c=>V.one n c.block):=Jh (by rw[Vw.row_succ,hkc])
 have HKL:Hid ((K.flatMap fun c=>V.one n c.block).length≤b.D.length):=Jh (by rw[←HROW.out];exact HLE.out)
 have hz2:=b2.size
 obtain ⟨a2,c2,e2,hc2,hm2,-⟩:=hown2.slice (fun _=>rfl)
 rw[List.length_map] at e2 hc2
 subst e2
 unfold maxLen at hm2
 have HOW:=Lib.hid hown2
 have HB2:=Jh (HB0.out.trans (b2.mono HB0.out.size))
 have HW2:=Jh (HW1.out.below b2)
 have HWB2:=Jh (HWB.out.ext (Ext.of_below (S:=fun _=>False) b2) (fun f=>f))
 clear hown2 hk hkc b2 x0 x1 w0 w1' w2' w3' HB0 HW1 HWB HLE HE
 go_wp2_with fail
 go_loopg [7,9] K.length (fun g ov iv wx=>∃ (k:Nat) (sv:Sl) (vs:List NdV),g=K.length - k∧k≤K.length∧iv=.int .i64 k∧ov=.slice sv.a sv.n sv.cap∧Hid (Own NdV.cells 6 28 w.heap.size wx sv.val vs)∧Hid (∀ j,sv.val.ownBlock=some j→w2.heap.size≤j)∧Hid (Zc (fun j=>w.heap.size≤j∧sv.val.ownBlock≠some j) wx vs (YS V n K k))∧Hid (Below w2.heap.size w2 wx))
 case atStart=>exact ⟨0,Z2,[],rfl,Nat.zero_le _,rfl,rfl,Lib.hid Own.nil,Jh (fun j h=>by cases h),Lib.hid Zc.nil,Jh (Below.refl _ _)⟩
 case round =>
  obtain ⟨k,sv,vs,hg,hk,rfl,rfl,HO,HSV,HN,HB⟩:=hrel
  have HG:=Lib.hid hg
  have hwz:=HB.out.size
  clear hg
  by_cases hlt:k<K.length
  ·obtain ⟨x,hx⟩:∃ x,K[k]?=some x:=⟨_,List.getElem?_eq_getElem hlt⟩
   have hkk:(k:Int)<(K.length:Int):=by omega
   have hk0:(0:Int)≤(k:Int):=by omega
   have hvl:vs.length=(YS V n K k).length:=HN.out.1
   have hpl1:=Uj V n K (k+1)
   rw[WY hx,List.length_append] at hpl1
   have hkd:=HKL.out
   have hdn:=HLN.out.2.2
   have HSU:=Jh (WY (V:=V) (n:=n) hx)
   have hw4:=HOW.out.ext (Ext.of_below (S:=fun _=>False) HB.out) (fun _ _ f=>f)
   obtain ⟨ba,oa,ca1,e1,hcs⟩:=(hw4.slice (fun _=>rfl)).scells (by intro e;have:=congrArg List.length e;rw[List.length_map,List.length_nil] at this;omega)
   rw[List.length_map] at e1
   cases e1
   obtain ⟨y0,y1⟩:=hcs k x.block (by rw[List.getElem?_map,hx];rfl)
   have hwl:=HW2.out.below HB.out
   have hwbr:=HWB2.out.ext (Ext.of_below (S:=fun _=>False) HB.out) (fun f=>f)
   obtain ⟨c0,c1,c2x,c3⟩:=hwbr.cells
   obtain ⟨⟨xn,xr⟩,xu,xk⟩:=x
   simp only at y0 y1 hpl1
   have HWL:=Lib.hid hwl
   have HBA:Hid (ba<w2.heap.size):=Jh ((HOW.out.blk ba rfl).2)
   clear hx hcs hw4 hwl hwbr
   go_upto_region 6 with fail
   have HS:Hid (∀ W,Below wr.heap.size wr W→W.cell? ⟨w.heap.size,0,none⟩=some (.slice b.va b.l.length b.ca)∧W.cell? ⟨w.heap.size,1,none⟩=some (.slice b.vk b.D.length b.ck)∧W.cell? ⟨w.heap.size,2,none⟩=some (.pointer (some ⟨b.gp,0,none⟩))∧W.cell? ⟨w.heap.size,3,none⟩=some (.slice b.vb b.ms.length b.cb)∧W.cell? ⟨ba,oa+k*2,none⟩=some (.int .i64 xn)∧W.cell? ⟨ba,oa+k*2+1,none⟩=some (.int .i64 xr)):=Jh (fun W hW=>⟨Z0 hW c0,Z0 hW c1,Z0 hW c2x,Z0 hW c3,Z0 hW y0,Z0 hW y1⟩)
   have hS0:(fun W:World=>W.cell? ⟨w.heap.size,0,none⟩=some (.slice b.va b.l.length b.ca)∧W.cell? ⟨w.heap.size,1,none⟩=some (.slice b.vk b.D.length b.ck)∧W.cell? ⟨w.heap.size,2,none⟩=some (.pointer (some ⟨b.gp,0,none⟩))∧W.cell? ⟨w.heap.size,3,none⟩=some (.slice b.vb b.ms.length b.cb)∧W.cell? ⟨ba,oa+k*2,none⟩=some (.int .i64 xn)∧W.cell? ⟨ba,oa+k*2+1,none⟩=some (.int .i64 xr)) wr.drew:=HS.out _ (Below.refl _ _).drew
   refine Zf (fun W:World=>W.cell? ⟨w.heap.size,0,none⟩=some (.slice b.va b.l.length b.ca)∧W.cell? ⟨w.heap.size,1,none⟩=some (.slice b.vk b.D.length b.ck)∧W.cell? ⟨w.heap.size,2,none⟩=some (.pointer (some ⟨b.gp,0,none⟩))∧W.cell? ⟨w.heap.size,3,none⟩=some (.slice b.vb b.ms.length b.cb)∧W.cell? ⟨ba,oa+k*2,none⟩=some (.int .i64 xn)∧W.cell? ⟨ba,oa+k*2+1,none⟩=some (.int .i64 xr)) (fun _=>false) (by kernel_rfl) ?_
   refine JR 0 25 _ rfl rfl hS0 (fun W hW=>by obtain ⟨q0,q1,q2,q3,q4,q5⟩:=hW;go_simp;try rfl) ?_
   try simp only[Ja]
   refine JR 1 26 (.slice b.va b.l.length b.ca) rfl rfl hS0 (fun W hW=>by obtain ⟨q0,q1,q2,q3,q4,q5⟩:=hW;go_simp;try rfl) ?_
   try simp only[Ja]
   refine JR 2 27 _ rfl rfl hS0 (fun W hW=>by obtain ⟨q0,q1,q2,q3,q4,q5⟩:=hW;go_simp;try rfl) ?_
   try simp only[Ja]
   refine JR 3 28 _ rfl rfl hS0 (fun W hW=>by obtain ⟨q0,q1,q2,q3,q4,q5⟩:=hW;go_simp;try rfl) ?_
   try simp only[Ja]
   refine JR 4 29 _ rfl rfl hS0 (fun W hW=>by obtain ⟨q0,q1,q2,q3,q4,q5⟩:=hW;go_simp;try rfl) ?_
   try simp only[Ja]
   refine JR 5 30 (.agg #[.int .i64 xn,.int .i64 xr]) rfl rfl hS0 (fun W hW=>by obtain ⟨q0,q1,q2,q3,q4,q5⟩:=hW;go_simp;try rfl) ?_
   try simp only[Ja]
   refine ZB (i:=6) (d:=some 31) (w':=wr.drew) (by kernel_rfl) rfl rfl (by rfl) (by go_simp;try rfl) ((Z1h _ b.l xn xr wr.drew HWL.out.el).mono ?_)
   rintro e w4 ⟨rfl,b4⟩
   have hb4:Below wr.heap.size wr w4:=(Below.refl _ _).drew.trans b4
   refine ⟨_,rfl,fun _=>HS.out _ hb4,?_⟩
   try simp only[Ja]
   refine Xi (i:=7) (d:=some 10) (v:=.bool (X6 b.l ⟨xn,xr⟩)) rfl rfl rfl (by kernel_rfl) (by kernel_rfl) (by kernel_rfl) (by kernel_rfl) (fun _ _ _ h=>h) (.inl ⟨by rfl,fun W hW=>by obtain ⟨q0,q1,q2,q3,q4,q5⟩:=hW;go_simp;try rfl⟩) (HS.out _ hb4) ?_
   try simp only[Ja]
   refine Zd (by kernel_rfl) ?_ _
   have HB4:=Lib.hid hb4
   have hz4:=hb4.size
   clear hS0 c0 c1 c2x c3 y0 y1 hb4 b4
   cases hlv:X6 b.l ⟨xn,xr⟩ with
   | true =>
    have HONE:Hid (V.one n ⟨xn,xr⟩=[V.nd ⟨xn,xr⟩ (V.row n ⟨xn,xr⟩)]):=Jh (by unfold Vw.one;rw[if_pos];rw[HW2.out.lv,hlv])
    rw[HONE.out,List.length_singleton] at hpl1
    obtain ⟨s,hsp⟩:=Option.isSome_iff_exists.1 (show (YD b.l ⟨xn,xr⟩).isSome=true from hlv)
    have HSP:=Lib.hid hsp
    clear hlv hsp
    go_upto_region 8 with fail
    have hS0:(fun W:World=>W.cell? ⟨w.heap.size,0,none⟩=some (.slice b.va b.l.length b.ca)∧W.cell? ⟨w.heap.size,1,none⟩=some (.slice b.vk b.D.length b.ck)∧W.cell? ⟨w.heap.size,2,none⟩=some (.pointer (some ⟨b.gp,0,none⟩))∧W.cell? ⟨w.heap.size,3,none⟩=some (.slice b.vb b.ms.length b.cb)∧W.cell? ⟨ba,oa+k*2,none⟩=some (.int .i64 xn)∧W.cell? ⟨ba,oa+k*2+1,none⟩=some (.int .i64 xr)) w4.drew:=HS.out _ HB4.out.drew
    refine Zf (fun W:World=>W.cell? ⟨w.heap.size,0,none⟩=some (.slice b.va b.l.length b.ca)∧W.cell? ⟨w.heap.size,1,none⟩=some (.slice b.vk b.D.length b.ck)∧W.cell? ⟨w.heap.size,2,none⟩=some (.pointer (some ⟨b.gp,0,none⟩))∧W.cell? ⟨w.heap.size,3,none⟩=some (.slice b.vb b.ms.length b.cb)∧W.cell? ⟨ba,oa+k*2,none⟩=some (.int .i64 xn)∧W.cell? ⟨ba,oa+k*2+1,none⟩=some (.int .i64 xr)) (fun _=>false) (by kernel_rfl) ?_
    refine JR 0 33 _ rfl rfl hS0 (fun W hW=>by obtain ⟨q0,q1,q2,q3,q4,q5⟩:=hW;go_simp;try rfl) ?_
    try simp only[Ja]
    refine JR 1 34 (.agg #[.slice b.va b.l.length b.ca,.slice b.vk b.D.length b.ck,.pointer (some ⟨b.gp,0,none⟩),.slice b.vb b.ms.length b.cb]) rfl rfl hS0 (fun W hW=>by obtain ⟨q0,q1,q2,q3,q4,q5⟩:=hW;go_simp;try rfl) ?_
    try simp only[Ja]
    refine JR 2 35 _ rfl rfl hS0 (fun W hW=>by obtain ⟨q0,q1,q2,q3,q4,q5⟩:=hW;go_simp;try rfl) ?_
    try simp only[Ja]
    refine JR 3 36 _ rfl rfl hS0 (fun W hW=>by obtain ⟨q0,q1,q2,q3,q4,q5⟩:=hW;go_simp;try rfl) ?_
    try simp only[Ja]
    refine JR 4 37 _ rfl rfl hS0 (fun W hW=>by obtain ⟨q0,q1,q2,q3,q4,q5⟩:=hW;go_simp;try rfl) ?_
    try simp only[Ja]
    refine JR 5 38 (.agg #[.int .i64 xn,.int .i64 xr]) rfl rfl hS0 (fun W hW=>by obtain ⟨q0,q1,q2,q3,q4,q5⟩:=hW;go_simp;try rfl) ?_
    try simp only[Ja]
    refine JR 6 39 _ rfl rfl hS0 (fun W hW=>by obtain ⟨q0,q1,q2,q3,q4,q5⟩:=hW;go_simp;try rfl) ?_
    try simp only[Ja]
    refine JR 7 40 (.int .i64 (n:Int)) rfl rfl hS0 (fun W hW=>by obtain ⟨q0,q1,q2,q3,q4,q5⟩:=hW;have hdw:=hdw;go_simp;try rfl) ?_
    try simp only[Ja]
    have HWD:=Jh (HWL.out.below HB4.out.drew)
    have HNd:=Jh (HN.out.below (HB4.out.drew))
    have HOd:=Jh (HO.out.ext (Ext.of_below (S:=fun _=>False) HB4.out.drew) (fun _ _ f=>f))
    refine ZB (i:=8) (d:=some 41) (w':=w4.drew) (by kernel_rfl) rfl rfl (by rfl) (by go_simp;try rfl) ((HNODE.out ⟨xn,xr⟩ _ w4.drew HWD.out HSP.out).mono ?_)
    rintro e w6 ⟨y,rfl,hx6,b6⟩
    have hb6:Below wr.heap.size wr w6:=HB4.out.trans ((Below.refl _ _).drew.trans b6 |>.mono hz4)
    have hzd:w4.drew.heap.size=w4.heap.size:=rfl
    have hz6:=hb6.size
    have hb6d:Below w4.drew.heap.size w4.drew w6:=b6
    have hz46:w4.heap.size≤w6.heap.size:=b6.size
    have HO6:=Jh (HOd.out.ext (Ext.of_below (S:=fun _=>False) b6) (fun _ _ f=>f))
    have HN6:=Jh (HNd.out.below b6)
    have HB6:=Jh (HB.out.trans (hb6.mono hwz))
    have HX6:=Lib.hid hx6
    obtain ⟨i0,hi,hz0,hz1,hz2q⟩:=info_parts Xc
    have hvl6:vs.length+1≤b.D.length:=by omega
    obtain ⟨v8,w8,hr8,hown8,hx8,hfr8⟩:=Yx (P:=Tryz.prog) 26 26 i0 (.agg #[.int .i64 0,.int .i64 0,.string ⟨#[]⟩,.slice none 0 0,.slice none 0 0,.slice none 0 0]) 104 YN hi hz0 hz1 hz2q rfl (by omega) NdV.len NdV.one (HO6.out.alloc (.cells y.cells.toArray 28)) y w6.heap.size 1 (fun j u hj=>ZG j u hj) (by unfold maxLen;omega) (by omega) (by simp;omega)
    obtain ⟨⟨g8,n8,c8⟩,rfl⟩:=hown8.sl20
    have hxs8:=hx8.size
    try rw[World.size_alloc] at hxs8
    simp only[Sl.val] at hr8
    refine ⟨_,rfl,fun _=>HS.out _ hb6,?_⟩
    try simp only[Ja]
    refine Zl (i:=9) (d:=some 42) (v:=.slice (some ⟨w6.heap.size,0,none⟩) 1 1) (w':=w6.alloc (.cells y.cells.toArray 28)) (by kernel_rfl) rfl rfl (by rfl) (by simp only[NdV.cells];go_simp;try rfl) (fun _=>HS.out _ (hb6.alloc hz6 _)) ?_
    try simp only[Ja]
    have hS8:(fun W:World=>W.cell? ⟨w.heap.size,0,none⟩=some (.slice b.va b.l.length b.ca)∧W.cell? ⟨w.heap.size,1,none⟩=some (.slice b.vk b.D.length b.ck)∧W.cell? ⟨w.heap.size,2,none⟩=some (.pointer (some ⟨b.gp,0,none⟩))∧W.cell? ⟨w.heap.size,3,none⟩=some (.slice b.vb b.ms.length b.cb)∧W.cell? ⟨ba,oa+k*2,none⟩=some (.int .i64 xn)∧W.cell? ⟨ba,oa+k*2+1,none⟩=some (.int .i64 xr)) w8:=by
     have hne:∀ j,sv.val.ownBlock=some j→w2.heap.size≤j:=HSV.out
     obtain ⟨q0,q1,q2,q3,q4,q5⟩:=HS.out _ (hb6.alloc hz6 _)
     have hba:=HBA.out
     exact ⟨hx8.keep q0 (fun e=>by have:=hne _ e;omega),hx8.keep q1 (fun e=>by have:=hne _ e;omega),hx8.keep q2 (fun e=>by have:=hne _ e;omega),hx8.keep q3 (fun e=>by have:=hne _ e;omega),hx8.keep q4 (fun e=>by have:=hne _ e;omega),hx8.keep q5 (fun e=>by have:=hne _ e;omega)⟩
    refine Zl (i:=10) (d:=some 43) (v:=.slice g8 n8 c8) (w':=w8) (by kernel_rfl) rfl rfl (by rfl) (Yp rfl rfl rfl hr8) (fun _=>hS8) ?_
    try simp only[Ja]
    refine JR 11 7 _ rfl rfl hS8 (fun W hW=>by obtain ⟨q0,q1,q2,q3,q4,q5⟩:=hW;go_simp;try rfl) ?_
    try simp only[Ja]
    refine Zd (by kernel_rfl) ?_ _
    clear hS8 hr8 hS0 b6 hx6 HS
    have hsvb:∀ j,sv.val.ownBlock=some j→j<wr.heap.size:=fun j hj=>(HO.out.blk j hj).2
    have hown9:∀ j,sv.val.ownBlock=some j→w2.heap.size≤j:=HSV.out
    have HN8:Hid (Zc (fun j=>w.heap.size≤j∧(Value.slice g8 n8 c8).ownBlock≠some j) w8 (vs++[y]) (YS V n K (k+1))):=Jh (by
     rw[HSU.out,HONE.out]
     refine Zc.append ?_ ?_
     ·refine ((HN6.out.ext ((Ext.refl (fun _=>False) _).alloc _) (fun _ _ _ f=>f)).monoL (D':=fun j=>w.heap.size≤j∧(Value.slice g8 n8 c8).ownBlock≠some j∧sv.val.ownBlock≠some j) (fun j hj hl=>⟨hj.1,fun e=>?_,hj.2⟩)).ext hx8 (fun j hj _=>hj.2.2) |>.mono (fun j hj=>⟨hj.1,hj.2.1⟩)
      rcases hfr8 j e with h|h
      ·exact hj.2 h
      ·first|omega|(rw[World.size_alloc] at hl;omega)|(have:=hl;omega)
     ·refine (((Zc.one HX6.out).ext ((Ext.refl (fun _=>False) _).alloc _) (fun _ _ _ f=>f)).monoL (D':=fun j=>w.heap.size≤j∧(Value.slice g8 n8 c8).ownBlock≠some j∧sv.val.ownBlock≠some j) (fun j hj hl=>⟨by omega,fun e=>?_,fun e=>?_⟩)).ext hx8 (fun j hj _=>hj.2.2) |>.mono (fun j hj=>⟨hj.1,hj.2.1⟩)
      ·rcases hfr8 j e with h|h
       ·have:=hsvb j h;omega
       ·first|omega|(rw[World.size_alloc] at hl;omega)|(have:=hl;omega)
      ·have:=hsvb j e;omega)
    have HB8:=Jh (Ext.new (B:=w2.heap.size) (HB6.out.alloc (by omega) _) hx8 (fun j hj _ e=>by have:=hown9 j e;omega) (by first|omega|(simp;omega)))
    have HSV8:Hid (∀ j,(Sl.mk g8 n8 c8).val.ownBlock=some j→w2.heap.size≤j):=Jh (fun j hj=>by rcases hfr8 j hj with h|h;exact hown9 j h;first|omega|(rw[World.size_alloc] at h;omega))
    have HO8:=Lib.hid hown8
    clear hown8 hx8 hfr8 HN6 HO6 HB6
    go_wp2_with fail
    go_roundg (K.length - (k+1))
    case measure=>rw[HG.out];omega
    case rel=>exact ⟨k+1,⟨g8,n8,c8⟩,_,rfl,hlt,by go_num,rfl,HO8,HSV8,HN8,HB8⟩
   | false =>
    have HONE:Hid (V.one n ⟨xn,xr⟩=V.row n ⟨xn,xr⟩):=Jh (by unfold Vw.one;rw[if_neg];rw[HW2.out.lv,hlv];simp)
    rw[HONE.out] at hpl1
    clear hlv
    go_upto_region 9 with fail
    have hS0:(fun W:World=>W.cell? ⟨w.heap.size,0,none⟩=some (.slice b.va b.l.length b.ca)∧W.cell? ⟨w.heap.size,1,none⟩=some (.slice b.vk b.D.length b.ck)∧W.cell? ⟨w.heap.size,2,none⟩=some (.pointer (some ⟨b.gp,0,none⟩))∧W.cell? ⟨w.heap.size,3,none⟩=some (.slice b.vb b.ms.length b.cb)∧W.cell? ⟨ba,oa+k*2,none⟩=some (.int .i64 xn)∧W.cell? ⟨ba,oa+k*2+1,none⟩=some (.int .i64 xr)) w4.drew:=HS.out _ HB4.out.drew
    refine Zf (fun W:World=>W.cell? ⟨w.heap.size,0,none⟩=some (.slice b.va b.l.length b.ca)∧W.cell? ⟨w.heap.size,1,none⟩=some (.slice b.vk b.D.length b.ck)∧W.cell? ⟨w.heap.size,2,none⟩=some (.pointer (some ⟨b.gp,0,none⟩))∧W.cell? ⟨w.heap.size,3,none⟩=some (.slice b.vb b.ms.length b.cb)∧W.cell? ⟨ba,oa+k*2,none⟩=some (.int .i64 xn)∧W.cell? ⟨ba,oa+k*2+1,none⟩=some (.int .i64 xr)) (fun _=>false) (by kernel_rfl) ?_
    refine JR 0 44 _ rfl rfl hS0 (fun W hW=>by obtain ⟨q0,q1,q2,q3,q4,q5⟩:=hW;go_simp;try rfl) ?_
    try simp only[Ja]
    refine JR 1 45 (.agg #[.slice b.va b.l.length b.ca,.slice b.vk b.D.length b.ck,.pointer (some ⟨b.gp,0,none⟩),.slice b.vb b.ms.length b.cb]) rfl rfl hS0 (fun W hW=>by obtain ⟨q0,q1,q2,q3,q4,q5⟩:=hW;go_simp;try rfl) ?_
    try simp only[Ja]
    refine JR 2 46 _ rfl rfl hS0 (fun W hW=>by obtain ⟨q0,q1,q2,q3,q4,q5⟩:=hW;go_simp;try rfl) ?_
    try simp only[Ja]
    refine JR 3 47 _ rfl rfl hS0 (fun W hW=>by obtain ⟨q0,q1,q2,q3,q4,q5⟩:=hW;go_simp;try rfl) ?_
    try simp only[Ja]
    refine JR 4 48 _ rfl rfl hS0 (fun W hW=>by obtain ⟨q0,q1,q2,q3,q4,q5⟩:=hW;go_simp;try rfl) ?_
    try simp only[Ja]
    refine JR 5 49 (.agg #[.int .i64 xn,.int .i64 xr]) rfl rfl hS0 (fun W hW=>by obtain ⟨q0,q1,q2,q3,q4,q5⟩:=hW;go_simp;try rfl) ?_
    try simp only[Ja]
    refine JR 6 50 _ rfl rfl hS0 (fun W hW=>by obtain ⟨q0,q1,q2,q3,q4,q5⟩:=hW;go_simp;try rfl) ?_
    try simp only[Ja]
    refine JR 7 51 (.int .i64 (n:Int)) rfl rfl hS0 (fun W hW=>by obtain ⟨q0,q1,q2,q3,q4,q5⟩:=hW;have hdw:=hdw;go_simp;try rfl) ?_
    try simp only[Ja]
    have HWD:=Jh (HWL.out.below HB4.out.drew)
    have HNd:=Jh (HN.out.below (HB4.out.drew))
    have HOd:=Jh (HO.out.ext (Ext.of_below (S:=fun _=>False) HB4.out.drew) (fun _ _ f=>f))
    refine ZB (i:=8) (d:=some 52) (w':=w4.drew) (by kernel_rfl) rfl rfl (by rfl) (by go_simp;try rfl) ((HRW.out ⟨xn,xr⟩ w4.drew HWD.out).mono ?_)
    rintro e w6 ⟨v6,us,rfl,hown6,hx6,b6⟩
    obtain ⟨⟨ga,gn,gc⟩,rfl⟩:=hown6.sl20
    have hb6:Below wr.heap.size wr w6:=HB4.out.trans ((Below.refl _ _).drew.trans b6 |>.mono hz4)
    have hzd:w4.drew.heap.size=w4.heap.size:=rfl
    have hz6:=hb6.size
    have hb6d:Below w4.drew.heap.size w4.drew w6:=b6
    have hz46:w4.heap.size≤w6.heap.size:=b6.size
    have HO6:=Jh (HOd.out.ext (Ext.of_below (S:=fun _=>False) b6) (fun _ _ f=>f))
    have HN6:=Jh (HNd.out.below b6)
    have HB6:=Jh (HB.out.trans (hb6.mono hwz))
    have HX6:=Lib.hid hx6
    obtain ⟨i0,hi,hz0,hz1,hz2q⟩:=info_parts Xc
    have hvl6:vs.length+us.length≤b.D.length:=by have:=hx6.1;omega
    obtain ⟨v8,w8,hr8,hown8,hx8,hfr8⟩:=XF (P:=Tryz.prog) 26 26 i0 (.agg #[.int .i64 0,.int .i64 0,.string ⟨#[]⟩,.slice none 0 0,.slice none 0 0,.slice none 0 0]) 104 YN hi hz0 hz1 hz2q rfl (by omega) NdV.len NdV.one HO6.out hown6 (by unfold maxLen;omega) (by omega) (by omega)
    obtain ⟨⟨g8,n8,c8⟩,rfl⟩:=hown8.sl20
    have hxs8:=hx8.size
    try rw[World.size_alloc] at hxs8
    simp only[Sl.val] at hr8
    refine ⟨_,rfl,fun _=>HS.out _ hb6,?_⟩
    try simp only[Ja]
    have hS8:(fun W:World=>W.cell? ⟨w.heap.size,0,none⟩=some (.slice b.va b.l.length b.ca)∧W.cell? ⟨w.heap.size,1,none⟩=some (.slice b.vk b.D.length b.ck)∧W.cell? ⟨w.heap.size,2,none⟩=some (.pointer (some ⟨b.gp,0,none⟩))∧W.cell? ⟨w.heap.size,3,none⟩=some (.slice b.vb b.ms.length b.cb)∧W.cell? ⟨ba,oa+k*2,none⟩=some (.int .i64 xn)∧W.cell? ⟨ba,oa+k*2+1,none⟩=some (.int .i64 xr)) w8:=by
     have hne:∀ j,sv.val.ownBlock=some j→w2.heap.size≤j:=HSV.out
     obtain ⟨q0,q1,q2,q3,q4,q5⟩:=HS.out _ hb6
     have hba:=HBA.out
     exact ⟨hx8.keep q0 (fun e=>by have:=hne _ e;omega),hx8.keep q1 (fun e=>by have:=hne _ e;omega),hx8.keep q2 (fun e=>by have:=hne _ e;omega),hx8.keep q3 (fun e=>by have:=hne _ e;omega),hx8.keep q4 (fun e=>by have:=hne _ e;omega),hx8.keep q5 (fun e=>by have:=hne _ e;omega)⟩
    refine Zl (i:=9) (d:=some 53) (v:=.slice g8 n8 c8) (w':=w8) (by kernel_rfl) rfl rfl (by rfl) (Yp rfl rfl rfl hr8) (fun _=>hS8) ?_
    try simp only[Ja]
    refine JR 10 7 _ rfl rfl hS8 (fun W hW=>by obtain ⟨q0,q1,q2,q3,q4,q5⟩:=hW;go_simp;try rfl) ?_
    try simp only[Ja]
    refine Zd (by kernel_rfl) ?_ _
    clear hS8 hr8 hS0 b6 hx6 HS
    have hsvb:∀ j,sv.val.ownBlock=some j→j<wr.heap.size:=fun j hj=>(HO.out.blk j hj).2
    have hown9:∀ j,sv.val.ownBlock=some j→w2.heap.size≤j:=HSV.out
    have HN8:Hid (Zc (fun j=>w.heap.size≤j∧(Value.slice g8 n8 c8).ownBlock≠some j) w8 (vs++us) (YS V n K (k+1))):=Jh (by
     rw[HSU.out,HONE.out]
     refine Zc.append ?_ ?_
     ·refine ((HN6.out).monoL (D':=fun j=>w.heap.size≤j∧(Value.slice g8 n8 c8).ownBlock≠some j∧sv.val.ownBlock≠some j) (fun j hj hl=>⟨hj.1,fun e=>?_,hj.2⟩)).ext hx8 (fun j hj _=>hj.2.2) |>.mono (fun j hj=>⟨hj.1,hj.2.1⟩)
      rcases hfr8 j e with h|h
      ·exact hj.2 h
      ·first|omega|(rw[World.size_alloc] at hl;omega)|(have:=hl;omega)
     ·refine ((HX6.out).monoL (D':=fun j=>w.heap.size≤j∧(Value.slice g8 n8 c8).ownBlock≠some j∧sv.val.ownBlock≠some j) (fun j hj hl=>⟨by omega,fun e=>?_,fun e=>?_⟩)).ext hx8 (fun j hj _=>hj.2.2) |>.mono (fun j hj=>⟨hj.1,hj.2.1⟩)
      ·rcases hfr8 j e with h|h
       ·have:=hsvb j h;omega
       ·first|omega|(rw[World.size_alloc] at hl;omega)|(have:=hl;omega)
      ·have:=hsvb j e;omega)
    have HB8:=Jh (Ext.new (B:=w2.heap.size) HB6.out hx8 (fun j hj _ e=>by have:=hown9 j e;omega) (by first|omega|(simp;omega)))
    have HSV8:Hid (∀ j,(Sl.mk g8 n8 c8).val.ownBlock=some j→w2.heap.size≤j):=Jh (fun j hj=>by rcases hfr8 j hj with h|h;exact hown9 j h;first|omega|(rw[World.size_alloc] at h;omega))
    have HO8:=Lib.hid hown8
    clear hown8 hx8 hfr8 HN6 HO6 HB6
    go_wp2_with fail
    go_roundg (K.length - (k+1))
    case measure=>rw[HG.out];omega
    case rel=>exact ⟨k+1,⟨g8,n8,c8⟩,_,rfl,hlt,by go_num,rfl,HO8,HSV8,HN8,HB8⟩
  ·obtain rfl:k=K.length:=by omega
   have hkk:¬ (K.length:Int)<(K.length:Int):=by omega
   have HFIN:Hid (Vq V (n+1) u w (.returned (.slice sv.a sv.n sv.cap)) wr):=Lib.hid ⟨_,vs,rfl,HO.out,by rw[HROW.out];have:=HN.out;unfold YS at this;rw[List.take_length] at this;exact this,HB2.out.trans (HB.out.mono (by omega))⟩
   clear hlt hk HO HN HB
   go_wp2_with fail
   go_ret
   exact HFIN.out
end Go.Proofs.YtlgipkemoldckaaGreatDoor
