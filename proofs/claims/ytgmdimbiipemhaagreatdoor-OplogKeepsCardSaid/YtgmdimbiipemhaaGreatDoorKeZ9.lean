/- OplogKeeps, part 9 of what the proof leans on (made short by a program). -/
import Derived.Test.YtgmdimbiipemhaaGreatDoorKeZ8
import Derived.Lib.BufferWrite
set_option linter.unusedSimpArgs false
set_option linter.unusedVariables false
set_option linter.unusedSectionVars false
set_option maxRecDepth 20000
set_option maxHeartbeats 30000000
namespace Go.Proofs.YtgmdimbiipemhaaGreatDoor
open Go.RowKit Go.Deep
theorem SJ:(Tryz.prog.info? 68).map (fun i=>(i.zero,i.size,i.bytes))=some (some (.agg zOp.cells.toArray),26,232):=by kernel_rfl
theorem Z5A (n:Nat):(madeCells zOp.cells.toArray (n*26)).toList=(List.replicate n zOp).flatMap OpD.cells:=by
 apply List.ext_getElem?
 intro q
 by_cases hq:q<n*26
 ·have hdm:q / 26*26+q % 26=q:=by omega
  have hi:(List.replicate n zOp)[q / 26]?=some zOp:=List.getElem?_replicate_of_lt (by omega)
  obtain ⟨u,hu⟩:∃ u,zOp.cells[q % 26]?=some u:=⟨_,List.getElem?_eq_getElem (by rw[OpD.len];omega)⟩
  have h5:=getElem?_flatMap_k OpD.len _ _ _ hi _ _ hu
  rw[hdm] at h5
  rw[h5]
  unfold madeCells
  rw[Array.getElem?_toList,Array.getElem?_map,Array.getElem?_range,if_pos hq,Option.map_some,List.size_toArray,OpD.len,getElem!_def,List.getElem?_toArray,hu]
 ·rw[List.getElem?_eq_none (by simp[madeCells];omega),List.getElem?_eq_none (by rw[Zq OpD.len,List.length_replicate];omega)]
theorem Own.made {base n:Nat} {W:World} (hb:base≤W.heap.size) (hn:n≤200):Own OpD.cells 26 68 base (W.alloc (.cells (madeCells zOp.cells.toArray (n*26)) 68)) (.slice (some ⟨W.heap.size,0,none⟩) n n) (List.replicate n zOp):=by
 have hs:(madeCells zOp.cells.toArray (n*26)).size=n*26:=by simp[madeCells]
 refine ⟨by rw[Zq OpD.len],.inr ⟨W.heap.size,n,madeCells zOp.cells.toArray (n*26),by rw[List.length_replicate],hb,ZD W _,by rw[List.length_replicate];exact Nat.le_refl _,by unfold maxLen;omega,hs,?_⟩⟩
 rw[List.length_replicate,List.take_of_length_le (by rw[Array.length_toList,hs];exact Nat.le_refl _)]
 exact Z5A n
theorem TKS.made1 {w0:World} {T n:Nat} {W:World} {tb tb':Value} {b r:List UInt8} (h:TKS w0 T W tb b (.slice none 0 0) []) (hr:Z0 u8c 1 w0 tb' r) (hn:n≤200) :
  TKS w0 T (((W.setCell ⟨T,0,none⟩ tb').setCell ⟨T,1,none⟩ (.slice (some ⟨W.heap.size,0,none⟩) n n)).alloc (.cells (madeCells zOp.cells.toArray (n*26)) 68)).drew tb' r (.slice (some ⟨W.heap.size,0,none⟩) n n) (List.replicate n zOp):=by
 have hTl:=(Array.getElem?_eq_some_iff.1 h.cell).1
 have hx2:Ext (·=T) W (W.setCell ⟨T,0,none⟩ tb'):=(Ext.refl (·=T) W).setCell (p:=⟨T,0,none⟩) (.inr rfl) _
 have hc2:(W.setCell ⟨T,0,none⟩ tb').heap[T]?=some (.cells #[tb',.slice none 0 0] 90 (0,0)):=by rw[heap_setCell_same _ T 0 _ _ _ h.cell];rfl
 have hx3:Ext (·=T) (W.setCell ⟨T,0,none⟩ tb') ((W.setCell ⟨T,0,none⟩ tb').setCell ⟨T,1,none⟩ (.slice (some ⟨W.heap.size,0,none⟩) n n)):=(Ext.refl (·=T) _).setCell (p:=⟨T,1,none⟩) (.inr rfl) _
 have hc3:((W.setCell ⟨T,0,none⟩ tb').setCell ⟨T,1,none⟩ (.slice (some ⟨W.heap.size,0,none⟩) n n)).heap[T]?=some (.cells #[tb',(.slice (some ⟨W.heap.size,0,none⟩) n n)] 90 (0,0)):=by rw[heap_setCell_same _ T 1 _ _ _ hc2];rfl
 have hz:((W.setCell ⟨T,0,none⟩ tb').setCell ⟨T,1,none⟩ (.slice (some ⟨W.heap.size,0,none⟩) n n)).heap.size=W.heap.size:=by rw[World.size_setCell,World.size_setCell]
 have hx:Ext (·=T) W ((W.setCell ⟨T,0,none⟩ tb').setCell ⟨T,1,none⟩ (.slice (some ⟨W.heap.size,0,none⟩) n n)):=hx2.andThen hx3 (fun i hi e=>e)
 generalize (W.setCell ⟨T,0,none⟩ tb').setCell ⟨T,1,none⟩ (.slice (some ⟨W.heap.size,0,none⟩) n n)=W2 at hc3 hz hx ⊢
 have ho:=Own.made (W:=W2) (base:=w0.heap.size) (n:=n) (by rw[hz];exact h.bel.size) hn
 rw[hz] at ho
 have hx4:Ext (fun _=>False) W2 (W2.alloc (.cells (madeCells zOp.cells.toArray (n*26)) 68)).drew:=((Ext.refl _ _).alloc _).drew
 have hall:Ext (·=T) W (W2.alloc (.cells (madeCells zOp.cells.toArray (n*26)) 68)).drew:=hx.andThen hx4 (fun i hi e=>e.elim)
 exact ⟨(hx4.block T (by omega) id).trans hc3,hr,ho.below1 (Below.refl _ _).drew,Ext.new h.bel hall (fun k hk _ e=>by have:=h.new;omega) h.bel.size,h.new,h.fltKeep hall (fun e=>by omega)⟩
def Z6w (w0:World) (T:Nat) (b:List UInt8) (e:Ending) (w':World):Prop :=
 (∃ l tb' tl,Xt b=some l∧e=.returned .nilIface∧TKS w0 T w' tb' [] tl l)∨(Xt b=none∧(∃ s m,e=.returned (Uu s m))∧Kp w0 T w')
theorem Z2C (w0:World) (T:Nat) (w:World) (tb:Value) (b:List UInt8) (h:TKS w0 T w tb b (.slice none 0 0) []):Calls Tryz.prog 53 #[.pointer (some ⟨T,0,none⟩)] w fun e w'=>Z6w w0 T b e w':=by
 obtain ⟨ta,tcap,rfl,htc,htm,-⟩:=id h.byt
 unfold maxLen at htm
 have hc0:=h.cell
 have HT:=Lib.hid h
 clear h
 have cT:w.cell? ⟨T,0,none⟩=some (.slice ta b.length tcap):=by simp[World.cell?,hc0]
 cases hv:ZG b with
 | none =>
  have hR:=YS (Tu.1 hv)
  have HBAD:=Jh (Z3p hv)
  clear hc0 hv
  go_enter Tryz.func53,Tryz.ntmps53
  go_wp2_with fail
  refine (V7 _ b _ HT.out.bytes).mono ?_
  rintro e w' ⟨rfl,rfl⟩
  rw[hR]
  clear hR
  go_wp2_with fail
  go_ret
  exact Or.inr ⟨HBAD.out,⟨_,_,rfl⟩,HT.out.kp⟩
 | some n =>
  have hR:=WH (ZQ.1 hv)
  have HV:=Lib.hid hv
  have hpb:(Z6 n).length≤b.length:=(ZQ.1 hv).2.length_le
  clear hv
  by_cases hbig:200<n
  ·have hb1:(200:Int)<(n:Int):=by omega
   have HBAD:=Jh (Z3N HV.out hbig)
   clear hc0
   go_enter Tryz.func53,Tryz.ntmps53
   go_wp2_with fail
   refine (V7 _ b _ HT.out.bytes).mono ?_
   rintro e w' ⟨rfl,rfl⟩
   rw[hR]
   clear hR
   go_wp2_with fail
   go_ret
   exact Or.inr ⟨HBAD.out,⟨_,_,rfl⟩,HT.out.kp⟩
  ·have hb1:¬ (200:Int)<(n:Int):=by omega
   obtain ⟨a1,c1,hsl,hS1,-⟩:=ZW (P:=Tryz.prog) (ea:=u8c) Tryz.underlying22 Zl ta b.length tcap (Z6 n).length htc hpb
   have HBY:=Jh (hS1 w0 b rfl HT.out.byt)
   obtain ⟨i0,hi,hy0,hy1,hy2⟩:=info_parts SJ
   have hmk:∀ W:World,(Instr.makeSlice 24 (.int .u64 (n:Int)) (.int .u64 (n:Int))).run Tryz.prog W=.ok (.slice (some ⟨W.heap.size,0,none⟩) n n) (W.alloc (.cells (madeCells zOp.cells.toArray (n*26)) 68)):=fun W=>by
    have h:=run_make (P:=Tryz.prog) W 24 68 i0 _ Tryz.underlying24 hi hy0 .u64 .u64 (n:Int) (n:Int) (by omega) (by omega) (by rw[hy2];omega) (by omega)
    rw[hy1,Int.toNat_natCast] at h
    exact h
   have cT1:w.cell? ⟨T,1,none⟩=some (.slice none 0 0):=by simp[World.cell?,hc0]
   have fT:w.frozen? ⟨T,0,none⟩=false:=by simp[World.frozen?,hc0]
   have fT1:w.frozen? ⟨T,1,none⟩=false:=by simp[World.frozen?,hc0]
   have hTl:T<w.heap.size:=(Array.getElem?_eq_some_iff.1 hc0).1
   clear hS1 hc0 hi hy0 hy1 hy2
   go_enter Tryz.func53,Tryz.ntmps53
   go_wp2_with fail
   refine (V7 _ b _ HT.out.bytes).mono ?_
   rintro e w' ⟨rfl,rfl⟩
   rw[hR]
   clear hR
   go_upto_region 4 with fail
   go_region
   have HN:Hid (TKS w0 T (((w.setCell ⟨T,0,none⟩ (.slice a1 (b.length - (Z6 n).length) c1)).setCell ⟨T,1,none⟩ (.slice (some ⟨w.heap.size,0,none⟩) n n)).alloc (.cells (madeCells zOp.cells.toArray (n*26)) 68)).drew (.slice a1 (b.length - (Z6 n).length) c1) (b.drop (Z6 n).length) (.slice (some ⟨w.heap.size,0,none⟩) n n) (List.replicate n zOp)):=Jh (HT.out.made1 HBY.out (by omega))
   clear cT cT1 fT fT1 hTl HBY HT htc htm
   generalize (((w.setCell ⟨T,0,none⟩ (.slice a1 (b.length - (Z6 n).length) c1)).setCell ⟨T,1,none⟩ (.slice (some ⟨w.heap.size,0,none⟩) n n)).alloc (.cells (madeCells zOp.cells.toArray (n*26)) 68)).drew=W4 at HN ⊢
   generalize w.heap.size=g at HN ⊢
   go_wp2_with fail
   refine (Z2s w0 T _ _ _ _ _ HN.out (by rw[List.length_replicate];omega)).mono ?_
   rintro e w5 (⟨L,r2,tb2,hdec,rfl,hk5⟩|⟨hdec,⟨s,m,rfl⟩,hb5⟩)
   rotate_left
   ·rw[List.length_replicate] at hdec
    have HBAD:=Jh (Z3v HV.out hbig hdec)
    have HBL:=Lib.hid hb5
    clear hdec hb5 HN
    unfold Uu
    go_wp2_with fail
    go_ret
    exact Or.inr ⟨HBAD.out,⟨s,m,rfl⟩,HBL.out⟩
   rw[List.length_replicate] at hdec hk5
   have HC:=Lib.hid hdec
   have HLN:Hid ((YV L n (List.replicate n zOp)).length=n):=Jh (by rw[Uf,List.length_replicate])
   have HN5:=Lib.hid hk5
   clear hdec hk5 HN
   go_wp2_with fail
   refine (QO w0 T _ _ _ _ _ HN5.out (by rw[HLN.out];omega)).mono ?_
   rintro e w6 (⟨l3,r3,tb3,hdec,rfl,hk6⟩|⟨hdec,⟨s,m,rfl⟩,hb6⟩)
   rotate_left
   ·rw[HLN.out] at hdec
    have HBAD:=Jh (Z4l HV.out hbig HC.out hdec)
    have HBL:=Lib.hid hb6
    clear hdec hb6 HN5
    unfold Uu
    go_wp2_with fail
    go_ret
    exact Or.inr ⟨HBAD.out,⟨s,m,rfl⟩,HBL.out⟩
   rw[HLN.out] at hdec
   have HCH:=Jh (Z1d HV.out hbig HC.out hdec)
   have HL3:Hid (l3.length=n):=Jh ((Qz hdec).trans HLN.out)
   have HN6:=Lib.hid hk6
   clear hdec hk6 HN5 HLN HC
   go_wp2_with fail
   go_loopg [54] 3 (fun q kv wx=>∃ (k:Nat) (l4:List OpD) (r4:List UInt8) (tb4:Value),q=3 - k∧kv=.int .i64 k∧k≤3∧Hid (tkX n k (l3,r3)=some (l4,r4)∧l4.length=n∧TKS w0 T wx tb4 r4 (.slice (some ⟨g,0,none⟩) n n) l4))
   case atStart=>exact ⟨0,_,_,_,rfl,rfl,by omega,Lib.hid ⟨rfl,HL3.out,HN6.out⟩⟩
   case round =>
    clear HN6 HL3
    obtain ⟨k,l4,r4,tb4,hg,rfl,hk,HR⟩:=hrel
    have HG:=Lib.hid hg
    clear hg
    by_cases hlt:k<3
    ·have hk1:(k:Int)<3:=by omega
     have HLT:=Lib.hid hlt
     clear hlt
     go_wp2_with fail
     refine (Z0V w0 T _ _ _ _ _ k HLT.out HR.out.2.2 (by rw[HR.out.2.1];omega)).mono ?_
     rintro e w7 (⟨l5,r5,tb5,hdec,rfl,hk7⟩|⟨hdec,⟨s,m,rfl⟩,hb7⟩)
     rotate_left
     ·rw[HR.out.2.1] at hdec
      have HBAD:=Jh (VR (HCH.out.trans (Z6C HR.out.1 hdec HLT.out)))
      have HBL:=Lib.hid hb7
      clear hdec hb7 HR
      unfold Uu
      go_wp2_with fail
      go_ret
      exact Or.inr ⟨HBAD.out,⟨s,m,rfl⟩,HBL.out⟩
     rw[HR.out.2.1] at hdec
     have HNN:Hid (tkX n (k+1) (l3,r3)=some (l5,r5)∧l5.length=n∧TKS w0 T w7 tb5 r5 (.slice (some ⟨g,0,none⟩) n n) l5):=Lib.hid ⟨(Z1m HR.out.1).trans hdec,(Z5y hdec).trans HR.out.2.1,hk7⟩
     clear hdec hk7 HR
     go_wp2_with fail
     go_roundg (3 - (k+1))
     case measure=>rw[HG.out];have:=HLT.out;omega
     case rel=>exact ⟨k+1,_,_,_,rfl,by simp,by have:=HLT.out;omega,HNN⟩
    ·obtain rfl:k=3:=by omega
     have hk1:¬ (3:Int)<3:=by omega
     have HD:Hid (Xm b=some (l4,r4)):=Jh (HCH.out.trans HR.out.1)
     have HKS:=Lib.hid HR.out.2.2
     have HL4:=Lib.hid HR.out.2.1
     clear HR hlt hk HCH HG HV
     obtain ⟨t4,c4,rfl,ht4,hm4,-⟩:=id HKS.out.byt
     have hc4:=HKS.out.cell
     have cT4:wr.cell? ⟨T,0,none⟩=some (.slice t4 r4.length c4):=by simp[World.cell?,hc4]
     have cT5:wr.cell? ⟨T,1,none⟩=some (.slice (some ⟨g,0,none⟩) n n):=by simp[World.cell?,hc4]
     clear hc4 ht4 hm4
     by_cases hr4:r4=[]
     ·subst hr4
      simp only[List.length_nil] at cT4
      go_wp2_with fail
      clear cT4 cT5
      go_loopg [78] n (fun q kv wx=>∃ j:Nat,q=n - j∧kv=.int .i64 j∧j≤n∧Hid ((∀ x∈l4.take j,x.right=true)∧TKS w0 T wx (.slice t4 ([]:List UInt8).length c4) [] (.slice (some ⟨g,0,none⟩) n n) l4))
      case atStart=>exact ⟨0,rfl,rfl,Nat.zero_le _,Lib.hid ⟨fun x hx=>by simp at hx,HKS.out⟩⟩
      case round =>
       clear HKS
       obtain ⟨j,hg,rfl,hj,HR⟩:=hrel
       have HG:=Lib.hid hg
       clear hg
       by_cases hlj:j<n
       ·have hj1:(j:Int)<(n:Int):=by omega
        obtain ⟨x,hx⟩:∃ x,l4[j]?=some x:=⟨_,List.getElem?_eq_getElem (by rw[HL4.out];exact hlj)⟩
        have hsl:Z0 OpD.cells 26 wr (.slice (some ⟨g,0,none⟩) l4.length n) l4:=by
         have h:=HR.out.2.own.slice OpD.len
         rw[HL4.out]
         exact h
        have hld:=Wl hsl hx
        rw[Nat.zero_add] at hld
        have hst:=Xa wr x
        have HLD:=Jh (And.intro hld hst)
        have HX:=Lib.hid hx
        have HFT:Hid x.fits:=Jh ((S9 HD.out).2.2 x (List.mem_of_getElem? hx)).1
        have hb2:Below wr.heap.size wr (wr.alloc (.cells x.cells.toArray 68)):=(Below.refl _ _).alloc (Nat.le_refl _) _
        have hob:=OB.new wr x
        have hw2:=OB.whole hob
        have HW2:=Jh (And.intro hb2 hw2)
        clear hsl hld hst hx hob hw2 hb2
        go_wp2_with (first|((with_reducible_and_instances refine Zi (o:=⟨some 81,_,_,_,_,_⟩) (v:=.agg x.cells.toArray) ?_ ?_ ?_);rfl;exact Zg rfl rfl HLD.out.1)|(refine ZL (T:=68) rfl rfl rfl rfl HLD.out.2 ?_)|((with_reducible_and_instances refine Zi (o:=⟨some 82,_,_,_,_,_⟩) (v:=.agg x.cells.toArray) ?_ ?_ ?_);rfl;exact Zg rfl rfl HW2.out.2))
        refine (Q7 x _ HFT.out).mono ?_
        rintro e w3 ⟨rfl,b3⟩
        have HB3:Hid (TKS w0 T w3 (.slice t4 ([]:List UInt8).length c4) [] (.slice (some ⟨g,0,none⟩) n n) l4):=Jh (HR.out.2.below (HW2.out.1.trans (b3.mono HW2.out.1.size)))
        clear b3 HW2 HLD
        cases hr:x.right with
        | false =>
         have HBAD:Hid (Xt b=none):=Jh (Z3j HD.out (fun h=>by have:=h.2 x (List.mem_of_getElem? HX.out);rw[hr] at this;cases this))
         have HBL:=Lib.hid HB3.out.kp
         clear hr HR HB3
         go_wp2_with fail
         go_ret
         exact Or.inr ⟨HBAD.out,⟨_,_,rfl⟩,HBL.out⟩
        | true =>
         have HNN:Hid ((∀ y∈l4.take (j+1),y.right=true)∧TKS w0 T w3 (.slice t4 ([]:List UInt8).length c4) [] (.slice (some ⟨g,0,none⟩) n n) l4):=Lib.hid ⟨fun y hy=>by
          rw[List.take_add_one,HX.out,Option.toList_some] at hy
          rcases List.mem_append.1 hy with hy|hy
          ·exact HR.out.1 y hy
          ·rw[List.mem_singleton.1 hy];exact hr,HB3.out⟩
         clear hr HR HB3
         go_wp2_with fail
         go_roundg (n - (j+1))
         case measure=>rw[HG.out];omega
         case rel=>exact ⟨j+1,rfl,by simp,by omega,HNN⟩
       ·obtain rfl:j=n:=by omega
        have hj1:¬ (j:Int)<(j:Int):=by omega
        have HALL:Hid (Xt b=some l4):=Jh (Z5H HD.out (by have h:=HR.out.1;rwa [←HL4.out,List.take_length] at h))
        go_wp2_with fail
        go_ret
        exact Or.inl ⟨_,_,_,HALL.out,rfl,HR.out.2⟩
     ·have hr5:(0:Int)<(r4.length:Int):=by have:=List.length_pos_iff.2 hr4;omega
      have HBAD:Hid (Xt b=none):=Jh (Z3j HD.out (fun h=>hr4 h.1))
      go_wp2_with fail
      go_ret
      exact Or.inr ⟨HBAD.out,⟨_,_,rfl⟩,HKS.out.kp⟩
def YK (w:World):Prop:=w.cell? ⟨0,0,none⟩=some (.iface 234 (.agg #[.pointer (some ⟨5,94,none⟩)]))
theorem YK.below {w w':World} (h:YK w) (hb:Below w.heap.size w w'):YK w':=(hb.cell (p:=⟨0,0,none⟩) (Zh h)).trans h
def Z2X (w:World) (b:List UInt8) (e:Ending) (w':World):Prop :=
 (∃ l x,Xt b=some l∧e=.returned (.tuple #[x,.int .i64 0])∧Own OpD.cells 26 68 w.heap.size w' x l∧Below w.heap.size w w') ∨
 (Xt b=none∧e=.returned (.tuple #[.slice none 0 0,.int .i64 81])∧Below w.heap.size w w')
theorem Z3q (v:Value) (b:List UInt8) (w:World) (h:Z0 u8c 1 w v b) (hg:YK w):Calls Tryz.prog 14 #[v] w fun e w'=>Z2X w b e w':=by
 obtain ⟨a,cap,rfl,hcap,hmax,-⟩:=id h
 obtain ⟨W,hW⟩:=Je ((w.alloc (.cells #[.slice a b.length cap,.slice none 0 0] 90)).alloc (.cells #[.int .i64 0] 91))
 have HK:Hid (TKS w w.heap.size W (.slice a b.length cap) b (.slice none 0 0) []):=Jh (by
  have hb:Below w.heap.size w W:=by rw[←hW];exact ((Below.refl _ _).alloc (Nat.le_refl _) _).alloc (by simp) _
  refine ⟨?_,h,Own.nil,hb,Nat.le_refl _,?_⟩
  ·rw[←hW];exact (Below.heap_alloc _ _ _ (by simp)).trans (ZD w _)
  ·rw[←hW]
   have:=ZD (w.alloc (.cells #[.slice a b.length cap,.slice none 0 0] 90)) (.cells #[.int .i64 0] 91)
   rwa [World.size_alloc] at this)
 have HG:=Lib.hid hg
 clear h hg
 go_enter Tryz.func14,Tryz.ntmps14
 go_wp2_with fail
 clear hW
 refine (Z2C w w.heap.size W _ b HK.out).mono ?_
 rintro e w3 (⟨l,tb',tl,hdec,rfl,hk⟩|⟨hdec,⟨s,m,rfl⟩,hb⟩)
 ·obtain ⟨⟨la,ln,lc⟩,el⟩:=hk.own.sl
  dsimp only at el
  subst el
  have hc:=hk.cell
  have c1:w3.cell? ⟨w.heap.size,1,none⟩=some (.slice la ln lc):=by simp[World.cell?,hc]
  have HKK:=Lib.hid hk
  clear hk hc
  go_wp2_with fail
  refine (Z74 _ _).mono ?_
  rintro e w4 ⟨rfl,rfl⟩
  go_wp2_with fail
  go_ret2
  exact Or.inl ⟨_,_,hdec,rfl,HKK.out.own,HKK.out.bel⟩
 ·have HB:=Lib.hid hb
  clear hb
  go_wp2_with fail
  refine (Z6Z s m ⟨w.heap.size+1,0,none⟩ (.int .i64 0) w3 (HG.out.below HB.out.1) (cell_of_one HB.out.2) (free_of_one HB.out.2)).mono ?_
  rintro e w5 ⟨rfl,hx⟩
  have HBB:Hid (Below w.heap.size w w5):=Jh (Ext.new HB.out.1 hx (fun k hk _ e=>by dsimp only at e;omega) HB.out.1.size)
  clear hx
  go_wp2_with fail
  go_ret2
  exact Or.inr ⟨hdec,rfl,HBB.out⟩
def Z3V (s:ByteArray) (n:Int):Value:=if n=0 then .nilIface else Y6 s n
theorem Yh (s:ByteArray):Z3V s 0=.nilIface:=rfl
theorem WE (s:ByteArray) {n:Int} (h:n≠0):Z3V s n=Y6 s n:=by unfold Z3V;rw[if_neg h]
theorem ZJ (s:ByteArray) (n:Int) (w:World):Calls Tryz.prog 82 #[.string s,.int .i64 n] w fun e w'=>e=.returned (Z3V s n)∧w'=w:=by
 by_cases h0:n=0
 ·subst h0
  rw[Yh]
  go_enter Tryz.func82,Tryz.ntmps82
  go_wp2
  go_ret
  exact ⟨rfl,rfl⟩
 ·rw[WE s h0]
  unfold Y6
  go_enter Tryz.func82,Tryz.ntmps82
  go_wp2
  go_ret
  exact ⟨rfl,rfl⟩
theorem Tw (s:ByteArray) (n:Int) (w:World) (hg:YK w):Calls Tryz.prog 73 #[Y6 s n] w fun e w'=>e=.returned (.int .i64 n)∧Below w.heap.size w w':=by
 have hB:Below w.heap.size w (w.alloc (.cells #[.int .i64 0] 204)):=(Below.refl _ _).alloc (Nat.le_refl _) _
 have hn:=ZD w (.cells #[.int .i64 0] 204)
 have hg1:=hg.below hB
 obtain ⟨w1,hw1⟩:=Je (w.alloc (.cells #[.int .i64 0] 204))
 rw[hw1] at hB hn hg1
 have HF:=Jh (And.intro hB (And.intro hg1 (And.intro (cell_of_one hn) (free_of_one hn))))
 have HW:=Lib.hid hw1
 clear hB hn hg1 hw1 hg
 go_enter Tryz.func73,Tryz.ntmps73
 go_wp2_with fail
 rw[HW.out]
 refine (Z4I s n ⟨w.heap.size,0,none⟩ (.int .i64 0) w1 HF.out.2.1 HF.out.2.2.1 HF.out.2.2.2).mono ?_
 rintro e w7 ⟨rfl,hx,hc⟩
 have HX:Hid (Below w.heap.size w w7):=Jh (Ext.new HF.out.1 hx (fun i hi _ e=>by dsimp only at e;omega) HF.out.1.size)
 clear hx
 go_wp2_with fail
 go_ret
 exact ⟨rfl,HX.out⟩
def Rt (l:List ByteArray) (x:ByteArray):Bool:=l.any fun y=>decide (y=x)
theorem Rq {l:List ByteArray} {x:ByteArray}:Rt l x=true↔x∈l:=by simp[Rt]
theorem Z4M (v:Value) (l:List ByteArray) (x:ByteArray) (w:World) (h:Z0 QN 1 w v l):Calls Tryz.prog 166 #[v,.string x] w fun e w'=>∃ n:Int,e=.returned (.int .i64 n)∧decide (0≤n)=Rt l x∧w'=w:=by
 obtain ⟨a,cap,rfl,hcap,hmax,-⟩:=id h
 unfold maxLen at hmax
 obtain ⟨n,hn⟩:=Je (l.length)
 rw[hn] at h hcap ⊢
 have HH:=Jh (And.intro h hn)
 clear h hn
 go_enter Tryz.func166,Tryz.ntmps166
 go_wp2_with fail
 go_loopg [8] n (fun g kv wx=>∃ k:Nat,g=n - k∧kv=.int .i64 k∧k≤n∧(∀ y∈l.take k,y≠x)∧wx=w)
 case atStart=>exact ⟨0,rfl,rfl,Nat.zero_le _,by simp,rfl⟩
 case round =>
  obtain ⟨k,hg,rfl,hk,hno,rfl⟩:=hrel
  have HG:=Jh (And.intro hg hno)
  clear hg hno
  by_cases hkn:k<n
  ·have hk1:(k:Int)<(n:Int):=by omega
   have hk0:(0:Int)≤(k:Int):=by omega
   obtain ⟨y,hy⟩:∃ y,l[k]?=some y:=⟨_,List.getElem?_eq_getElem (by rw[HH.out.2];exact hkn)⟩
   obtain ⟨b,o,rfl,hc⟩:=HH.out.1.at1 (u:=.string y) hy rfl
   by_cases he:x=y
   ·subst he
    have heq:(x == x)=true:=by rw[UB];exact decide_eq_true rfl
    go_wp2_with fail
    go_ret
    refine ⟨k,rfl,?_,rfl⟩
    rw[decide_eq_true hk0,eq_comm,Rq]
    exact List.mem_of_getElem? hy
   ·have heq:(x == y)=false:=by rw[UB];exact decide_eq_false he
    have heq2:(x.toList == y.toList)=false:=by
     simp only[beq_eq_false_iff_ne,ne_eq,Z1W]
     exact he
    go_wp2_with fail
    go_roundg (n - (k+1))
    case measure=>rw[HG.out.1];omega
    case rel =>
     refine ⟨k+1,rfl,by simp,by omega,fun z hz=>?_,rfl⟩
     rw[List.take_add_one,hy,Option.toList_some,List.mem_append,List.mem_singleton] at hz
     rcases hz with hz|rfl
     ·exact HG.out.2 z hz
     ·exact fun e=>he e.symm
  ·have hk1:¬ (k:Int)<(n:Int):=by omega
   go_wp2_with fail
   go_ret
   refine ⟨-1,rfl,?_,rfl⟩
   have hne:¬ (x∈l):=fun hm=>HG.out.2 x (by rw[List.take_of_length_le (by rw[HH.out.2];omega)];exact hm) rfl
   rw[Bool.eq_false_iff.2 (fun h=>hne (Rq.1 h))]
   rfl
theorem Su (v:Value) (l:List ByteArray) (x:ByteArray) (w:World) (h:Z0 QN 1 w v l):Calls Tryz.prog 123 #[v,.string x] w fun e w'=>e=.returned (.bool (Rt l x))∧w'=w:=by
 obtain ⟨a,cap,rfl,hcap,hmax,-⟩:=id h
 have HH:=Lib.hid h
 clear h
 go_enter Tryz.func123,Tryz.ntmps123
 go_wp2_with fail
 refine (Z4M _ l x _ HH.out).mono ?_
 rintro e w7 ⟨n,rfl,hd,rfl⟩
 go_wp2_with fail
 go_ret
 exact ⟨by rw[←hd];rfl,rfl⟩
end Go.Proofs.YtgmdimbiipemhaaGreatDoor
namespace Go.Proofs.YtgmdimbiipemhaaGreatDoor
def RC (s:Nat):Nat:=if s % 2=1 then (s / 2) ^^^ 2197175160 else s / 2
def Z2d:Nat→Nat→Nat
 | 0,s=>s
 | k+1,s=>RC (Z2d k s)
def Z1T (s:Nat) (x:UInt8):Nat:=Z2d 8 (s ^^^ x.toNat)
def Vv (l:List UInt8):Nat:=l.foldl Z1T 4294967295
def WK (l:List UInt8):Nat:=4294967295 - Vv l
theorem Tt {a b:Nat} (ha:a<4294967296) (hb:b<4294967296):a ^^^ b<4294967296:=Nat.xor_lt_two_pow (n:=32) ha hb
theorem Z6y {s:Nat} (h:s<4294967296):RC s<4294967296:=by
 unfold RC
 split
 ·exact Tt (by omega) (by omega)
 ·omega
theorem QB {s:Nat} (h:s<4294967296):∀ k,Z2d k s<4294967296
 | 0=>h
 | k+1=>Z6y (QB h k)
theorem Z6A {s:Nat} (h:s<4294967296) (x:UInt8):Z1T s x<4294967296:=QB (Tt h (by have:=x.toNat_lt;omega)) 8
theorem Z50 (l:List UInt8) (x:UInt8):Vv (l++[x])=Z1T (Vv l) x:=by unfold Vv;rw[List.foldl_append];rfl
theorem Z33:∀ (l:List UInt8) (s:Nat),s<4294967296→l.foldl Z1T s<4294967296
 | [],s,h=>h
 | x :: l,s,h=>by rw[List.foldl_cons];exact Z33 l _ (Z6A h x)
theorem Z34 (l:List UInt8):Vv l<4294967296:=Z33 l _ (by omega)
theorem Z3i (l:List UInt8):WK l<4294967296:=by unfold WK;omega
theorem Z4Z {l:List UInt8} {i:Nat} {x:UInt8} (hx:l[i]?=some x):Vv (l.take (i+1))=Z1T (Vv (l.take i)) x:=by
 rw[List.take_add_one,hx,Option.toList_some,Z50]
def ZY (n:Nat):List UInt8:=[UInt8.ofNat (n % 256),UInt8.ofNat (n / 256 % 256),UInt8.ofNat (n / 65536 % 256),UInt8.ofNat (n / 16777216 % 256)]
def YJ (a b c d:UInt8):Nat:=a.toNat+b.toNat*256+c.toNat*65536+d.toNat*16777216
theorem VT (n:Nat):(ZY n).length=4:=rfl
theorem SE (x:UInt8):UInt8.ofNat x.toNat=x:=by simp
theorem Z35 (a b c d:UInt8):ZY (YJ a b c d)=[a,b,c,d]:=by
 have ha:=a.toNat_lt
 have hb:=b.toNat_lt
 have hc:=c.toNat_lt
 have hd:=d.toNat_lt
 unfold ZY YJ
 have e0:(a.toNat+b.toNat*256+c.toNat*65536+d.toNat*16777216) % 256=a.toNat:=by omega
 have e1:(a.toNat+b.toNat*256+c.toNat*65536+d.toNat*16777216) / 256 % 256=b.toNat:=by omega
 have e2:(a.toNat+b.toNat*256+c.toNat*65536+d.toNat*16777216) / 65536 % 256=c.toNat:=by omega
 have e3:(a.toNat+b.toNat*256+c.toNat*65536+d.toNat*16777216) / 16777216 % 256=d.toNat:=by omega
 rw[e0,e1,e2,e3,SE,SE,SE,SE]
theorem Z39 {n:Nat} (h:n<4294967296):YJ (UInt8.ofNat (n % 256)) (UInt8.ofNat (n / 256 % 256)) (UInt8.ofNat (n / 65536 % 256)) (UInt8.ofNat (n / 16777216 % 256))=n:=by
 unfold YJ
 rw[YR (by omega),YR (by omega),YR (by omega),YR (by omega)]
 omega
def VI (k:UInt8) (body:List UInt8):List UInt8:=k :: ZY body.length
def Vd (k:UInt8) (body:List UInt8):List UInt8:=83 :: 84 :: (VI k body++(ZY (WK (VI k body++body))++body))
theorem Z4B (k:UInt8) (body:List UInt8):(Vd k body).length=11+body.length:=by simp[Vd,VI,ZY];omega
def Z3c (b:List UInt8) (k:UInt8) (body:List UInt8):Prop:=body.length≤65536∧Vd k body <+: b
def YX (b:List UInt8):Option (UInt8 × List UInt8):=match b with
 | m0 :: m1 :: k :: a0 :: a1 :: a2 :: a3 :: s0 :: s1 :: s2 :: s3 :: r=>if m0=83∧m1=84∧YJ a0 a1 a2 a3≤65536∧YJ a0 a1 a2 a3≤r.length∧YJ s0 s1 s2 s3=WK ([k,a0,a1,a2,a3]++r.take (YJ a0 a1 a2 a3)) then some (k,r.take (YJ a0 a1 a2 a3)) else none
 | _=>none
theorem Ui (m0 m1 k a0 a1 a2 a3 s0 s1 s2 s3:UInt8) (r:List UInt8):YX (m0 :: m1 :: k :: a0 :: a1 :: a2 :: a3 :: s0 :: s1 :: s2 :: s3 :: r)=if m0=83∧m1=84∧YJ a0 a1 a2 a3≤65536∧YJ a0 a1 a2 a3≤r.length∧YJ s0 s1 s2 s3=WK ([k,a0,a1,a2,a3]++r.take (YJ a0 a1 a2 a3)) then some (k,r.take (YJ a0 a1 a2 a3)) else none:=by unfold YX;rfl
theorem RK {b:List UInt8} (h:11≤b.length):∃ m0 m1 k a0 a1 a2 a3 s0 s1 s2 s3 r,b=m0 :: m1 :: k :: a0 :: a1 :: a2 :: a3 :: s0 :: s1 :: s2 :: s3 :: r:=by
 match b,h with
 | m0 :: m1 :: k :: a0 :: a1 :: a2 :: a3 :: s0 :: s1 :: s2 :: s3 :: r,_=>exact ⟨m0,m1,k,a0,a1,a2,a3,s0,s1,s2,s3,r,rfl⟩
theorem XT {b:List UInt8} (h:b.length<11):YX b=none:=by
 unfold YX
 split
 ·simp at h;omega
 ·rfl
theorem Z5o {k:UInt8} {body h4 s4:List UInt8} (e1:ZY body.length=h4) (e2:ZY (WK ((k :: h4)++body))=s4):Vd k body=83 :: 84 :: ((k :: h4)++(s4++body)):=by
 subst e1
 subst e2
 rfl
theorem Z5K {a0 a1 a2 a3:UInt8} {n:Nat} (hn:n=YJ a0 a1 a2 a3) {r:List UInt8} (h2:n≤r.length):ZY (r.take n).length=[a0,a1,a2,a3]:=by
 rw[List.length_take,Nat.min_eq_left h2,hn]
 exact Z35 _ _ _ _
theorem Z4O (a0 a1 a2 a3 s0 s1 s2 s3 k:UInt8) (r:List UInt8) (n:Nat):83 :: 84 :: ((k :: [a0,a1,a2,a3])++([s0,s1,s2,s3]++r.take n))++r.drop n=83 :: 84 :: k :: a0 :: a1 :: a2 :: a3 :: s0 :: s1 :: s2 :: s3 :: r:=by
 simp only[List.cons_append,List.nil_append,List.take_append_drop]
theorem Z5q {k a0 a1 a2 a3 s0 s1 s2 s3:UInt8} {r:List UInt8} {n c:Nat} (hn:n=YJ a0 a1 a2 a3) (h2:n≤r.length) (hc:c=YJ s0 s1 s2 s3) (h3:WK ((k :: [a0,a1,a2,a3])++r.take n)=c) :
  Vd k (r.take n)++r.drop n=83 :: 84 :: k :: a0 :: a1 :: a2 :: a3 :: s0 :: s1 :: s2 :: s3 :: r:=by
 rw[Z5o (Z5K hn h2) ((congrArg ZY (h3.trans hc)).trans (Z35 _ _ _ _))]
 exact Z4O _ _ _ _ _ _ _ _ _ _ _
theorem Z5v {b:List UInt8} {k:UInt8} {body:List UInt8} (h:YX b=some (k,body)):Z3c b k body:=by
 by_cases hl:11≤b.length
 ·obtain ⟨m0,m1,k',a0,a1,a2,a3,s0,s1,s2,s3,r,rfl⟩:=RK hl
  rw[Ui] at h
  split at h
  ·rename_i hc
   obtain ⟨rfl,rfl,h1,h2,h3⟩:=hc
   simp only[Option.some.injEq,Prod.mk.injEq] at h
   obtain ⟨rfl,rfl⟩:=h
   exact ⟨by rw[List.length_take,Nat.min_eq_left h2];exact h1,⟨r.drop (YJ a0 a1 a2 a3),Z5q rfl h2 rfl h3.symm⟩⟩
  ·cases h
 ·rw[XT (by omega)] at h
  cases h
theorem Z1b (k:UInt8) (body:List UInt8):VI k body=[k,UInt8.ofNat (body.length % 256),UInt8.ofNat (body.length / 256 % 256),UInt8.ofNat (body.length / 65536 % 256),UInt8.ofNat (body.length / 16777216 % 256)]:=rfl
theorem Ro (n:Nat):ZY n=[UInt8.ofNat (n % 256),UInt8.ofNat (n / 256 % 256),UInt8.ofNat (n / 65536 % 256),UInt8.ofNat (n / 16777216 % 256)]:=rfl
theorem Z5P {b:List UInt8} {k:UInt8} {body:List UInt8} (h:Z3c b k body):YX b=some (k,body):=by
 obtain ⟨h1,t,rfl⟩:=h
 have h2:WK (VI k body++body)<4294967296:=Z3i _
 obtain ⟨s,hs⟩:∃ s,WK (VI k body++body)=s:=⟨_,rfl⟩
 have e:Vd k body++t=83 :: 84 :: (VI k body++(ZY s++(body++t))):=by
  unfold Vd
  rw[hs]
  simp
 rw[hs] at h2
 rw[Z1b] at hs
 rw[e,Z1b,Ro s]
 simp only[List.cons_append,List.nil_append]
 rw[Ui,Z39 (by omega),Z39 h2,List.take_left,if_pos ⟨rfl,rfl,h1,by simp,hs.symm⟩]
theorem Z08 {m0 m1 k a0 a1 a2 a3 s0 s1 s2 s3:UInt8} {r:List UInt8} (h:¬ (m0=83∧m1=84∧YJ a0 a1 a2 a3≤65536∧YJ a0 a1 a2 a3≤r.length∧YJ s0 s1 s2 s3=WK ([k,a0,a1,a2,a3]++r.take (YJ a0 a1 a2 a3)))):YX (m0 :: m1 :: k :: a0 :: a1 :: a2 :: a3 :: s0 :: s1 :: s2 :: s3 :: r)=none:=by rw[Ui,if_neg h]
end Go.Proofs.YtgmdimbiipemhaaGreatDoor
namespace Go.Proofs.YtgmdimbiipemhaaGreatDoor
open Go.RowKit
theorem Z5B (n:Int):IntKind.u32.wrap n=n % 4294967296:=by
 unfold IntKind.wrap
 simp[IntKind.bits,IntKind.signed]
theorem WZ (op:BinOp) (a b c:Nat) (ha:a<4294967296) (hb:b<4294967296) (hc:c<4294967296)
  (h:(match op with|.and=>a &&& b|.or=>a ||| b|.xor=>a ^^^ b|_=>c)=c) (ho:op=.and∨op=.or∨op=.xor):bits op .u32 (a:Int) (b:Int)=(c:Int):=by
 unfold bits
 dsimp only
 rw[Z5B]
 have e64:IntKind.u32.bits=32:=rfl
 rcases ho with rfl|rfl|rfl
 ·simp only at h ⊢
  rw[Yp,Yp,e64,BitVec.toNat_and,BitVec.toNat_ofNat,BitVec.toNat_ofNat,Nat.mod_eq_of_lt (by omega),Nat.mod_eq_of_lt (by omega),h]
  omega
 ·simp only at h ⊢
  rw[Yp,Yp,e64,BitVec.toNat_or,BitVec.toNat_ofNat,BitVec.toNat_ofNat,Nat.mod_eq_of_lt (by omega),Nat.mod_eq_of_lt (by omega),h]
  omega
 ·simp only at h ⊢
  rw[Yp,Yp,e64,BitVec.toNat_xor,BitVec.toNat_ofNat,BitVec.toNat_ofNat,Nat.mod_eq_of_lt (by omega),Nat.mod_eq_of_lt (by omega),h]
  omega
theorem RE {a b:Nat} (ha:a<4294967296) (hb:b<4294967296):bits .xor .u32 (a:Int) (b:Int)=((a ^^^ b:Nat):Int) :=
 WZ .xor a b _ ha hb (Tt ha hb) rfl (.inr (.inr rfl))
theorem Z3L {a:Nat} (h:a<4294967296):4294967295 &&& a=a:=by
 rw[Nat.and_comm,show (4294967295:Nat)=2 ^ 32 - 1 from rfl,Nat.and_two_pow_sub_one_eq_mod]
 omega
theorem Z45 {a:Nat} (h:a<4294967296):a ^^^ 4294967295=4294967295 - a:=by
 have:=congrArg BitVec.toNat (BitVec.xor_allOnes (x:=BitVec.ofNat 32 a))
 rw[BitVec.toNat_xor,BitVec.toNat_not,BitVec.toNat_ofNat,BitVec.toNat_allOnes,Nat.mod_eq_of_lt (by omega)] at this
 simpa using this
theorem QL {n:Nat} (h:n<4294967296):bits .and .u32 (n:Int) 1=((n % 2:Nat):Int) :=
 WZ .and n 1 (n % 2) h (by omega) (by omega) (Nat.and_one_is_mod n) (.inl rfl)
theorem Z5U {s:Nat} (h:s<4294967296):bits .xor .u32 ((s:Int) / 2) (bits .and .u32 (-(bits .and .u32 (s:Int) 1) % 4294967296) 2197175160)=(RC s:Int):=by
 rw[QL h]
 unfold RC
 by_cases hp:s % 2=1
 ·rw[if_pos hp,hp]
  rw[show (-((1:Nat):Int)) % 4294967296=((4294967295:Nat):Int) by decide]
  rw[show (2197175160:Int)=((2197175160:Nat):Int) from rfl,WZ .and 4294967295 2197175160 2197175160 (by omega) (by omega) (by omega) (Z3L (by omega)) (.inl rfl)]
  rw[show (s:Int) / 2=((s / 2:Nat):Int) by omega]
  exact RE (by omega) (by omega)
 ·rw[if_neg hp,show s % 2=0 by omega]
  rw[show (-((0:Nat):Int)) % 4294967296=((0:Nat):Int) by decide]
  rw[show (2197175160:Int)=((2197175160:Nat):Int) from rfl,WZ .and 0 2197175160 0 (by omega) (by omega) (by omega) (Nat.zero_and _) (.inl rfl)]
  rw[show (s:Int) / 2=((s / 2:Nat):Int) by omega]
  exact WZ .xor _ 0 _ (by omega) (by omega) (by omega) (Nat.xor_zero _) (.inr (.inr rfl))
theorem Qg {a x i:Nat} (ha:a<2 ^ i) (h:a+x*2 ^ i<4294967296):bits .or .u32 (a:Int) ((x*2 ^ i:Nat):Int)=((a+x*2 ^ i:Nat):Int):=by
 refine WZ .or a (x*2 ^ i) _ (by omega) (by omega) h ?_ (.inr (.inl rfl))
 show a ||| x*2 ^ i=_
 rw[Nat.or_comm,Nat.mul_comm x,←Nat.two_pow_add_eq_or_of_lt ha,Nat.add_comm]
theorem Z3Z {s:Nat} (h:s<4294967296):bits .xor .u32 IntKind.u32.max (s:Int)=4294967295 - (s:Int):=by
 have e:IntKind.u32.max=((4294967295:Nat):Int):=by decide
 rw[e,WZ .xor 4294967295 s (4294967295 - s) (by omega) h (by omega) (by show _ ^^^ _=_;rw[Nat.xor_comm];exact Z45 h) (.inr (.inr rfl))]
 omega
end Go.Proofs.YtgmdimbiipemhaaGreatDoor
namespace Go.Proofs.YtgmdimbiipemhaaGreatDoor
open Go.RowKit Go.Deep
theorem Z6p {W:World} {B s:Nat} (hb:W.heap[B]?=some (.cells #[.int .u32 (s:Int)] 199 (0,0))) (hs:s<4294967296):Calls Tryz.prog 164 #[.pointer (some ⟨B,0,none⟩)] W fun e w'=>(∃ v,e=.returned v)∧w'=W.setCell ⟨B,0,none⟩ (.int .u32 (RC s:Int)):=by
 have c0:=cell_of_one hb
 have f0:=free_of_one hb
 have hbits:=Z5U hs
 clear hb
 go_enter Tryz.func164,Tryz.ntmps164
 go_wp2_with fail
 go_end0
 exact ⟨⟨_,rfl⟩,rfl⟩
theorem Z3y (w:World) (o:Obj):(w.alloc o).heap[w.heap.size]?=some o:=by
 show (w.heap.push o)[w.heap.size]?=_
 simp
def VC (w:World) (B s:Nat) (W:World):Prop:=W.heap[B]?=some (.cells #[.int .u32 (s:Int)] 199 (0,0))∧Below B w W
theorem VC.set {w W:World} {B s:Nat} (h:VC w B s W) (s':Nat):VC w B s' (W.setCell ⟨B,0,none⟩ (.int .u32 (s':Int))) :=
 ⟨one_setCell h.1,h.2.setCell (Nat.le_refl _) _⟩
theorem Z6P {s:Nat} (h:s<4294967296):((4294967295 - s:Nat):Int)=4294967295 - (s:Int):=by omega
theorem Z3d (v:Value) (l:List UInt8) (w:World) (h:Z0 u8c 1 w v l):Calls Tryz.prog 114 #[v] w fun e w'=>e=.returned (.int .u32 (WK l:Int))∧Below w.heap.size w w':=by
 obtain ⟨a,cap,rfl,hcap,hmax,-⟩:=id h
 unfold maxLen at hmax
 have HH:=Lib.hid h
 have HF:=Jh (show VC w w.heap.size 4294967295 (w.alloc (.cells #[.int .u32 4294967295] 199)) from ⟨Z3y w _,(Below.refl _ _).alloc (Nat.le_refl _) _⟩)
 clear h
 go_enter Tryz.func114,Tryz.ntmps114
 go_wp2_with fail
 go_loopg [10] l.length (fun g iv wr=>∃ k:Nat,g=l.length - k∧k≤l.length∧iv=.int .i64 k∧Hid (VC w w.heap.size (Vv (l.take k)) wr))
 case atStart=>exact ⟨0,rfl,Nat.zero_le _,rfl,Jh (by simpa [Vv] using HF.out)⟩
 case round =>
  obtain ⟨k,hg,hk,rfl,HS⟩:=hrel
  have HG:=Lib.hid hg
  clear hg
  by_cases hlt:k<l.length
  ·obtain ⟨x,hx⟩:∃ x,l[k]?=some x:=⟨_,List.getElem?_eq_getElem hlt⟩
   have c0:=cell_of_one HS.out.1
   have f0:=free_of_one HS.out.1
   obtain ⟨bb,o,rfl,cx⟩:=(HH.out.below HS.out.2).at1 hx rfl
   have hs:=Z34 (l.take k)
   have HT:=Jh (Z4Z hx)
   obtain ⟨s,hsn⟩:=Je (Vv (l.take k))
   rw[hsn] at hs c0 HT HS
   have hxl:=x.toNat_lt
   have hb:=RE hs (show x.toNat<4294967296 by omega)
   have hlt0:(k:Int)<(l.length:Int):=by omega
   clear hx hsn
   go_wp2_with fail
   obtain ⟨w9,rfl⟩:∃ w9,w9=wr:=⟨_,rfl⟩
   have HS9:=Jh (HS.out.set (s ^^^ x.toNat))
   have hs9:s ^^^ x.toNat<4294967296:=Tt hs (by omega)
   clear c0 f0 cx hb
   go_loopg [18] 8 (fun g jv wx=>∃ j:Nat,g=8 - j∧j≤8∧jv=.int .i64 j∧Hid (VC w w.heap.size (Z2d j (s ^^^ x.toNat)) wx))
   case atStart=>exact ⟨0,rfl,by omega,rfl,HS9⟩
   case round =>
    obtain ⟨j,hg,hj,rfl,HJ⟩:=hrel
    have HG2:=Lib.hid hg
    clear hg
    by_cases hjl:j<8
    ·have hj0:(j:Int)<8:=by omega
     go_wp2_with fail
     refine (Z6p HJ.out.1 (QB hs9 j)).mono ?_
     rintro e w5 ⟨⟨v5,rfl⟩,rfl⟩
     have HJ2:=Jh (HJ.out.set (RC (Z2d j (s ^^^ x.toNat))))
     go_wp2_with fail
     go_roundg (8 - (j+1))
     case measure=>rw[HG2.out];omega
     case rel=>exact ⟨j+1,rfl,by omega,by go_num,HJ2⟩
    ·have hj0:¬ (j:Int)<8:=by omega
     obtain rfl:j=8:=by omega
     have HK:Hid (VC w w.heap.size (Vv (l.take (k+1))) wr):=Jh (by rw[HT.out];exact HJ.out)
     go_wp2_with fail
     go_roundg (l.length - (k+1))
     case measure=>rw[HG.out];omega
     case rel=>exact ⟨k+1,rfl,by omega,by go_num,HK⟩
  ·have hlt0:¬ (k:Int)<(l.length:Int):=by omega
   obtain rfl:k=l.length:=by omega
   have HS2:=HS.out
   rw[List.take_length] at HS2
   have c0:=cell_of_one HS2.1
   have hs:=Z34 l
   have HF2:Hid (Below w.heap.size w wr∧(WK l:Int)=4294967295 - (Vv l:Int)):=Lib.hid ⟨HS2.2,Z6P hs⟩
   obtain ⟨s,hsn⟩:=Je (Vv l)
   rw[hsn] at hs c0 HF2
   clear HS HS2 hsn
   go_wp2_with fail
   go_ret
   refine ⟨congrArg (fun x=>Ending.returned (.int .u32 x)) ?_,HF2.out.1⟩
   rw[HF2.out.2]
   exact Z3Z hs
theorem YO {P:Program} {α:Type} {ea:α→List Value} {q:Nat} {t e:TypeId} (ht:P.underlying t=some (.slice e)) (hsz:(P.info? e).map (·.size)=some q) (a:Option Addr) (n cap lo hi:Nat) (hn:n≤cap) (hlo:lo≤hi) (hhi:hi≤n) :
  ∃ a' c',(∀ W,(Instr.slice t (.slice a n cap) (some (.int .i64 (lo:Int))) (some (.int .i64 (hi:Int))) none).run P W=.ok (.slice a' (hi - lo) c') W)∧(∀ W (l:List α),l.length=n→Z0 ea q W (.slice a n cap) l→Z0 ea q W (.slice a' (hi - lo) c') ((l.take hi).drop lo)):=by
 obtain ⟨i,hi',hq⟩:∃ i,P.info? e=some i∧i.size=q:=by
  cases h:P.info? e with
  | none=>rw[h] at hsz;cases hsz
  | some i=>rw[h] at hsz;exact ⟨i,rfl,Option.some.inj hsz⟩
 have hhc:hi≤cap:=by omega
 refine ⟨if cap=lo then a else a.map (·.add (lo*q)),cap - lo,fun W=>?_,fun W l hl h=>?_⟩
 ·simp[Instr.slice,Instr.sliceBounds,Instr.sliceBound,asIntOf,run_underlying ht,sizeOf,typeInfo,hi',hq,hlo,hhc,hn]
 ·obtain ⟨a2,c2,e2,h1,h2,h3⟩:=h
  cases e2
  have hlen:((l.take hi).drop lo).length=hi - lo:=by rw[List.length_drop,List.length_take];omega
  refine ⟨_,_,by rw[hlen],by rw[hlen];omega,by omega,fun hne=>?_⟩
  have hlt:lo<hi:=by
   rcases Nat.lt_or_ge lo hi with h|h
   ·exact h
   ·exact absurd (List.eq_nil_of_length_eq_zero (by rw[hlen];omega)) hne
  have hl0:l≠[]:=by rintro rfl;simp at hne
  obtain ⟨b,off,rfl,h4⟩:=h3 hl0
  rw[if_neg (by omega)]
  refine ⟨b,off+lo*q,by simp[Wt],fun i x hi2 j u hj=>?_⟩
  rw[List.getElem?_drop] at hi2
  have hix:=(List.getElem?_eq_some_iff.1 hi2).1
  rw[List.length_take] at hix
  rw[List.getElem?_take_of_lt (by omega)] at hi2
  have h5:=h4 (lo+i) x hi2 j u hj
  rw[Nat.add_mul] at h5
  rw[show off+lo*q+i*q+j=off+(lo*q+i*q)+j by omega]
  exact h5
theorem Yi {P:Program} {α:Type} {ea:α→List Value} {q:Nat} {t e:TypeId} (ht:P.underlying t=some (.slice e)) (hsz:(P.info? e).map (·.size)=some q) (a:Option Addr) (n cap p:Nat) (hn:n≤cap) (hp:p≤n) :
  ∃ a',(∀ W,(Instr.slice t (.slice a n cap) none (some (.int .i64 (p:Int))) none).run P W=.ok (.slice a' p cap) W)∧(∀ W (l:List α),l.length=n→Z0 ea q W (.slice a n cap) l→Z0 ea q W (.slice a' p cap) (l.take p)):=by
 obtain ⟨i,hi,hq⟩:∃ i,P.info? e=some i∧i.size=q:=by
  cases h:P.info? e with
  | none=>rw[h] at hsz;cases hsz
  | some i=>rw[h] at hsz;exact ⟨i,rfl,Option.some.inj hsz⟩
 have hpc:p≤cap:=by omega
 refine ⟨if cap=0 then a else a.map (·.add 0),fun W=>?_,fun W l hl h=>?_⟩
 ·simp[Instr.slice,Instr.sliceBounds,Instr.sliceBound,asIntOf,run_underlying ht,sizeOf,typeInfo,hi,hq,hpc,hn,eq_comm]
 ·by_cases hl0:l=[]
  ·subst hl0
   simp at hl
   obtain ⟨a2,c2,e2,h1,h2,h3⟩:=h
   cases e2
   have hp0:p=0:=by omega
   subst hp0
   exact ⟨_,_,rfl,Nat.zero_le _,h2,fun hne=>absurd rfl hne⟩
  ·have h5:=Z0.take1 (k:=p) h (by omega)
   have e:(if cap=0 then a else a.map (·.add 0))=a:=by
    obtain ⟨a2,c2,e2,h1,h2,h3⟩:=h
    cases e2
    obtain ⟨b,off,rfl,_⟩:=h3 hl0
    split
    ·rfl
    ·simp[Wt]
   rw[e]
   exact h5
theorem Se {P:Program} {q:Nat} {t e:TypeId} (ht:P.underlying t=some (.slice e)) (hsz:(P.info? e).map (·.size)=some q) (g o n cap p:Nat) (hn:n≤cap) (hp:p≤n) (hc:p<cap) (W:World) :
  (Instr.slice t (.slice (some ⟨g,o,none⟩) n cap) (some (.int .i64 (p:Int))) none none).run P W=.ok (.slice (some ⟨g,o+p*q,none⟩) (n - p) (cap - p)) W:=by
 obtain ⟨i,hi,hq⟩:∃ i,P.info? e=some i∧i.size=q:=by
  cases h:P.info? e with
  | none=>rw[h] at hsz;cases hsz
  | some i=>rw[h] at hsz;exact ⟨i,rfl,Option.some.inj hsz⟩
 have hne:¬ cap=p:=by omega
 simp[Instr.slice,Instr.sliceBounds,Instr.sliceBound,asIntOf,run_underlying ht,sizeOf,typeInfo,hi,hq,hp,hn,hne,Wt]
theorem Q0 {α:Type} {ea:α→List Value} (h1:∀ x,(ea x).length=1):∀ (l:List α) (o:Nat),(l.take o).flatMap ea=(l.flatMap ea).take o
 | [],o=>by simp
 | x :: l,0=>by simp
 | x :: l,o+1=>by
  rw[List.take_succ_cons,List.flatMap_cons,List.flatMap_cons,Q0 h1 l o,List.take_append,h1,List.take_of_length_le (l:=ea x) (by rw[h1];omega),Nat.add_sub_cancel]
theorem Q2 {α:Type} {ea:α→List Value} (h1:∀ x,(ea x).length=1):∀ (l:List α) (o:Nat),(l.drop o).flatMap ea=(l.flatMap ea).drop o
 | [],o=>by simp
 | x :: l,0=>by simp
 | x :: l,o+1=>by
  rw[List.drop_succ_cons,List.flatMap_cons,Q2 h1 l o,List.drop_append,h1,List.drop_of_length_le (l:=ea x) (by rw[h1];omega),List.nil_append,Nat.add_sub_cancel]
theorem Z2v (c x:List Value) (n o m:Nat) (hm:x.length=m) (ho:o+m≤n) (hn:n≤c.length):(c.take o++x++c.drop (o+m)).take n=(c.take n).take o++x++(c.take n).drop (o+m):=by
 have e1:(c.take o++x).length=o+m:=by rw[List.length_append,List.length_take,hm];omega
 rw[List.take_append,List.take_of_length_le (by omega),e1,List.take_take,Nat.min_eq_left (by omega),List.drop_take]
theorem Own.splice {α:Type} {ea:α→List Value} {E:TypeId} {base g cap:Nat} {W:World} {l xs:List α} {cur:Array Value} (h1:∀ x,(ea x).length=1) (h:Own ea 1 E base W (.slice (some ⟨g,0,none⟩) l.length cap) l) (hg:W.heap[g]?=some (.cells cur E (0,0))) (o:Nat) (ho:o+xs.length≤l.length) :
  Own ea 1 E base (W.setRow g (cur.toList.take o++xs.flatMap ea++cur.toList.drop (o+xs.length)).toArray) (.slice (some ⟨g,0,none⟩) l.length cap) (l.take o++xs++l.drop (o+xs.length)):=by
 obtain ⟨h2,h3⟩:=h
 have hlen:(l.take o++xs++l.drop (o+xs.length)).length=l.length:=by simp;omega
 rcases h3 with ⟨e,_⟩|⟨g',cap',cur',e,hb,hg',hn,hm,hs,ht⟩
 ·cases e
 cases e
 rw[hg] at hg'
 cases hg'
 have hx:(xs.flatMap ea).length=xs.length:=by rw[Zq h1,Nat.mul_one]
 have hl1:(l.flatMap ea).length=l.length:=by rw[Zq h1,Nat.mul_one]
 have hcl:cur.toList.length=cap:=by rw[Array.length_toList,hs,Nat.mul_one]
 refine ⟨by rw[Zq h1],.inr ⟨g,cap,_,by rw[hlen],hb,setRow_heap _ _ _ _ _ _ hg,by rw[hlen];exact hn,hm,?_,?_⟩⟩
 ·simp only[List.size_toArray,List.length_append,List.length_take,List.length_drop,hx,hcl]
  omega
 ·rw[hlen,Nat.mul_one,List.flatMap_append,List.flatMap_append,Q0 h1,Q2 h1,←ht,Nat.mul_one]
  exact Z2v _ _ _ _ _ hx ho (by omega)
theorem Z5u (w:World) (r i:Nat) (v:Value):Ext (·=r) w (w.setCell ⟨r,i,none⟩ v):=(Ext.refl (fun k=>k=r) w).setCell (p:=⟨r,i,none⟩) (.inr rfl) v
theorem SV (w:World) (g:Nat) (cs:Array Value):Ext (·=g) w (w.setRow g cs) :=
 ⟨rfl,rfl,rfl,by simp,fun k hk hn=>setRow_other w g k cs hn⟩
theorem Z6R {base:Nat} {W:World} (hb:base≤W.heap.size):Own u8c 1 5 base (W.alloc (.cells #[] 5)) (.slice (some ⟨W.heap.size,0,none⟩) 0 0) [] :=
 ⟨rfl,.inr ⟨W.heap.size,0,#[],rfl,hb,ZD W _,Nat.le_refl _,Nat.zero_le _,rfl,rfl⟩⟩
theorem RD {bs:List UInt8} {vx:Value} {w:World} (h:Z0 u8c 1 w vx bs) (hl:bs.length≤70368744177664) :
  Calls Tryz.prog 71 #[vx] w fun e w'=>Vb w bs e w':=by
 have h0:=h
 obtain ⟨a,cap,rfl,hcap,hmax,hcs⟩:=h
 cases a with
 | none =>
  have hys:bs=[]:=Classical.byContradiction fun hn=>by obtain ⟨b,o,e,_⟩:=hcs hn;cases e
  subst hys
  clear h0 hcs
  have hnil:=fun (w:World) a n c=>Lib.run_eql_slice_nil (P:=Tryz.prog) w 22 _ a n c 0 0 Tryz.underlying22
  go_enter Tryz.func71,Tryz.ntmps71
  go_wp2
  go_ret
  exact ⟨_,rfl,Own.nil,Below.refl _ _⟩
 | some ad =>
  have hb0:Below w.heap.size w (w.alloc (.cells #[] 5)):=(Below.refl _ _).alloc (Nat.le_refl _) _
  obtain ⟨⟨sa,sn,sc⟩,w6,hr6,ho6,hb6,hz6⟩:=Xd (Z6R (Nat.le_refl _)) hb0 (h0.below hb0) (by simp) (by simp;omega)
  rw[List.nil_append] at ho6
  have HR:=Lib.hid hr6
  have HO:=Jh (And.intro ho6 hb6)
  clear h0 hcs hb0 hr6 ho6 hb6 hz6
  have hnil:=fun (w:World) a n c=>Lib.run_eql_slice_nil (P:=Tryz.prog) w 22 _ a n c 0 0 Tryz.underlying22
  go_enter Tryz.func71,Tryz.ntmps71
  go_wp2_with (at_builtin;refine Lib.wpList_append_run _ rfl _ _ _ _ rfl _ _ rfl rfl _ _ HR.out ?_)
  go_ret
  exact ⟨_,rfl,HO.out.1,HO.out.2⟩
def Vg (l:List UInt8) (o n k:Nat):List UInt8:=l.take o++(ZY n).take k++l.drop (o+k)
theorem Z57 (l:List UInt8) (o n:Nat):Vg l o n 0=l:=by simp[Vg]
theorem Z6f {l:List UInt8} {o n k:Nat} (hk:k≤4) (h:o+k≤l.length):(Vg l o n k).length=l.length:=by
 have:=VT n
 simp[Vg]
 omega
theorem Z5z (n k:Nat) (hk:k<4):(ZY n)[k]?=some (UInt8.ofNat (n / 2 ^ (8*k) % 256)):=by
 have:k=0∨k=1∨k=2∨k=3:=by omega
 rcases this with rfl|rfl|rfl|rfl
 ·simp[ZY]
 ·simp[ZY]
 ·simp[ZY]
 ·simp[ZY]
theorem Z5j {l:List UInt8} {o n k:Nat} (hk:k<4) (h:o+k<l.length):(Vg l o n k).set (o+k) (UInt8.ofNat (n / 2 ^ (8*k) % 256))=Vg l o n (k+1):=by
 have h4:=VT n
 have e1:(l.take o++(ZY n).take k).length=o+k:=by simp;omega
 unfold Vg
 rw[List.set_append_right _ _ (by omega),e1,Nat.sub_self,List.take_add_one,Z5z n k hk,Option.toList_some]
 have e2:l.drop (o+k)=l[o+k] :: l.drop (o+k+1):=List.drop_eq_getElem_cons h
 rw[e2,List.set_cons_zero]
 simp[Nat.add_assoc]
theorem Z1j {base g o m c cap n:Nat} {l:List UInt8} {w:World} (h:Own u8c 1 5 base w (.slice (some ⟨g,0,none⟩) l.length cap) l) (hn:n<4294967296) (ho:o+4≤l.length) (hm:4≤m) (hm2:m≤9223372036854775807) :
  Calls Tryz.prog 113 #[.slice (some ⟨g,o,none⟩) m c,.int .u32 (n:Int)] w fun e w'=>(∃ v,e=.returned v)∧Own u8c 1 5 base w' (.slice (some ⟨g,0,none⟩) l.length cap) (Vg l o n 4)∧Ext (·=g) w w':=by
 have HH:=Lib.hid h
 clear h
 go_enter Tryz.func113,Tryz.ntmps113
 go_wp2_with fail
 go_loopg [5] 4 (fun gg iv wr=>∃ k:Nat,gg=4 - k∧k≤4∧iv=.int .i64 k∧Hid (Own u8c 1 5 base wr (.slice (some ⟨g,0,none⟩) l.length cap) (Vg l o n k)∧Ext (·=g) w wr))
 case atStart=>exact ⟨0,rfl,by omega,rfl,Lib.hid ⟨by rw[Z57];exact HH.out,Ext.refl _ _⟩⟩
 case round =>
  obtain ⟨k,hg,hk,rfl,HK⟩:=hrel
  have HG:=Lib.hid hg
  clear hg
  by_cases hlt:k<4
  ·have hk1:(k:Int)<4:=by omega
   have hkm:(k:Int)<(m:Int):=by omega
   have hlen:=Z6f (l:=l) (o:=o) (n:=n) (k:=k) (by omega) (by omega)
   obtain ⟨y,hy⟩:∃ y,(Vg l o n k)[o+k]?=some y:=⟨_,List.getElem?_eq_getElem (by omega)⟩
   have hO:=HK.out.1
   rw[←hlen] at hO
   have cy:=hO.cellAt Z7 (i:=o+k) (j:=0) hy rfl
   have fy:=hO.free (o+k)
   have hO2:=hO.setAt Z7 (j:=0) (y:=UInt8.ofNat (n / 2 ^ (8*k) % 256)) (u:=.int .u8 ((UInt8.ofNat (n / 2 ^ (8*k) % 256)).toNat:Int)) hy (by omega) rfl
   rw[Z5j hlt (by omega),hlen] at hO2
   rw[Nat.mul_one,Nat.add_zero] at cy hO2
   have hv:(n:Int) / 2 ^ (8*k) % 256=((UInt8.ofNat (n / 2 ^ (8*k) % 256)).toNat:Int):=by
    rw[YR (by omega)]
    push_cast
    rfl
   obtain ⟨z,hz⟩:=Je (UInt8.ofNat (n / 2 ^ (8*k) % 256))
   rw[hz] at hv hO2
   have HN:=Jh (And.intro hO2 (HK.out.2.trans (Z5u _ g (o+k) (.int .u8 (z.toNat:Int)))))
   clear hO hO2 hz hy hlen
   go_wp2_with fail
   go_roundg (4 - (k+1))
   case measure=>rw[HG.out];omega
   case rel=>exact ⟨k+1,rfl,by omega,by go_num,HN⟩
  ·have hk1:¬ (k:Int)<4:=by omega
   obtain rfl:k=4:=by omega
   go_wp2_with fail
   go_end0
   exact ⟨⟨_,rfl⟩,HK.out.1,HK.out.2⟩
def Yn (l:List UInt8):Nat→Nat
 | 0=>0
 | k+1=>Yn l k+(l.getD k 0).toNat*2 ^ (8*k)
theorem Xj (l:List UInt8):∀ k,Yn l k<2 ^ (8*k)
 | 0=>by simp[Yn]
 | k+1=>by
  have h1:=Xj l k
  have h2:=(l.getD k 0).toNat_lt
  have e:2 ^ (8*(k+1))=2 ^ (8*k)*256:=by rw[show 8*(k+1)=8*k+8 by omega,Nat.pow_add]
  have h3:(l.getD k 0).toNat*2 ^ (8*k)≤255*2 ^ (8*k):=Nat.mul_le_mul_right _ (by omega)
  rw[Yn,e]
  omega
theorem Tn (a b c d:UInt8) (l:List UInt8):Yn (a :: b :: c :: d :: l) 4=YJ a b c d:=by
 simp[Yn,YJ]
theorem XJ (v:Value) (l:List UInt8) (w:World) (h:Z0 u8c 1 w v l) (hl:4≤l.length):Calls Tryz.prog 163 #[v] w fun e w'=>e=.returned (.int .u32 (Yn l 4:Int))∧w=w':=by
 obtain ⟨a,cap,rfl,hcap,hmax,-⟩:=id h
 unfold maxLen at hmax
 have HH:=Lib.hid h
 clear h
 go_enter Tryz.func163,Tryz.ntmps163
 go_wp2_with fail
 go_loopg [3,5] 4 (fun g sv iv wr=>∃ k:Nat,g=4 - k∧k≤4∧sv=.int .u32 (Yn l k:Int)∧iv=.int .i64 k∧w=wr)
 case atStart=>exact ⟨0,rfl,Nat.zero_le _,rfl,rfl,rfl⟩
 case round =>
  obtain ⟨k,hg,hk,rfl,rfl,rfl⟩:=hrel
  have HG:=Lib.hid hg
  clear hg
  by_cases hlt:k<4
  ·obtain ⟨x,hx⟩:∃ x,l[k]?=some x:=⟨_,List.getElem?_eq_getElem (by omega)⟩
   obtain ⟨bb,o,rfl,cx⟩:=HH.out.at1 hx rfl
   have hs:=Xj l k
   have hs2:=Xj l (k+1)
   have hxg:l.getD k 0=x:=by rw[List.getD_eq_getElem?_getD,hx];rfl
   have HT:Hid (Yn l (k+1)=Yn l k+x.toNat*2 ^ (8*k)):=Jh (by rw[Yn,hxg])
   rw[HT.out] at hs2
   have h4:2 ^ (8*(k+1))≤2 ^ 32:=Nat.pow_le_pow_right (by omega) (by omega)
   have hlt32:Yn l k+x.toNat*2 ^ (8*k)<4294967296:=by omega
   have hxl:=x.toNat_lt
   have hb:=Qg (x:=x.toNat) hs hlt32
   have hw:(x.toNat:Int)*2 ^ (8*k) % 4294967296=((x.toNat*2 ^ (8*k):Nat):Int):=by
    have e:(x.toNat:Int)*2 ^ (8*k)=((x.toNat*2 ^ (8*k):Nat):Int):=by push_cast;rfl
    rw[e]
    omega
   obtain ⟨z,hz⟩:=Je (x.toNat*2 ^ (8*k))
   obtain ⟨s,hsn⟩:=Je (Yn l k)
   obtain ⟨c,hcn⟩:=Je (s+z)
   rw[hz] at hb hw HT
   rw[hsn] at hb HT ⊢
   rw[hcn] at hb HT
   have hlt0:(k:Int)<4:=by omega
   have hkl:(k:Int)<(l.length:Int):=by omega
   clear hx hsn hxg hs hs2 h4 hlt32 hz hcn
   go_wp2_with fail
   go_roundg (4 - (k+1))
   case measure=>rw[HG.out];omega
   case rel=>exact ⟨k+1,rfl,by omega,by rw[HT.out],by go_num,rfl⟩
  ·have hlt0:¬ (k:Int)<4:=by omega
   obtain rfl:k=4:=by omega
   go_wp2_with fail
   go_ret
   exact ⟨rfl,rfl⟩
theorem Rb (v:Value) (l:List UInt8) (w:World) (h:Z0 u8c 1 w v l) (hl:11≤l.length) (hb:l.length≤1000000):Calls Tryz.prog 115 #[v] w fun e w'=>Vb w ((l.take 7).drop 2++l.drop 11) e w':=by
 obtain ⟨a,cap,rfl,hcap,hmax,-⟩:=id h
 unfold maxLen at hmax
 obtain ⟨a4,c4,hs4,hS4⟩:=YO (P:=Tryz.prog) (ea:=u8c) Tryz.underlying22 Zl a l.length cap 2 7 hcap (by omega) (by omega)
 obtain ⟨a7,c7,hs7,hS7,-⟩:=ZW (P:=Tryz.prog) (ea:=u8c) Tryz.underlying22 Zl a l.length cap 11 hcap hl
 have hr4:∀ W,(Instr.slice 22 (.slice a l.length cap) (some (.int .i64 2)) (some (.int .i64 7)) none).run Tryz.prog W=.ok (.slice a4 5 c4) W:=hs4
 have hr7:∀ W,(Instr.slice 22 (.slice a l.length cap) (some (.int .i64 11)) none none).run Tryz.prog W=.ok (.slice a7 (l.length - 11) c7) W:=hs7
 have HS:=Jh (And.intro (hS4 w l rfl h) (And.intro (hS7 w l rfl h) h))
 clear hs4 hs7 hS4 hS7 h
 go_enter Tryz.func115,Tryz.ntmps115
 go_upto_region 1 with fail
 refine Z8 (fun _=>True) (fun _=>false) (by kernel_rfl) ?_
 have HB:Hid (Below w.heap.size w w.drew):=Jh (Below.refl _ _).drew
 have hsz:w.drew.heap.size=w.heap.size:=rfl
 generalize w.drew=W1 at HB hsz ⊢
 have hS0:(fun _:World=>True) W1:=trivial
 refine J0 0 3 _ hS0 ?_
 try simp only[Ja]
 refine J0 1 4 (.slice a4 5 c4) hS0 ?_
 try simp only[Ja]
 refine J0 3 6 _ hS0 ?_
 try simp only[Ja]
 refine J0 4 7 (.slice a7 (l.length - 11) c7) hS0 ?_
 try simp only[Ja]
 refine Zw (i:=2) (d:=some 5) (f:=71) (args:=#[.slice a4 5 c4]) (w':=W1) (by kernel_rfl) rfl rfl (by rfl) (by go_simp;try rfl) ?_
 refine (RD (HS.out.1.below HB.out) (by simp;omega)).mono ?_
 rintro e w5 ⟨v5,rfl,own5,b5⟩
 obtain ⟨⟨ta,tn,tc⟩,e5⟩:=own5.sl
 dsimp only at e5
 subst e5
 obtain ⟨⟨ua,un,uc⟩,w6,hr6,own6,b6,hsz6⟩:=Xd own5 b5 ((HS.out.2.1.below HB.out).below b5) b5.size (by simp;omega)
 refine ⟨_,rfl,fun _=>trivial,?_⟩
 try simp only[Ja]
 refine Zy (i:=5) (d:=some 8) (v:=.slice ua un uc) (w':=w6) (by kernel_rfl) rfl rfl (by rfl) (XI rfl rfl rfl hr6) (fun _=>trivial) ?_
 try simp only[Ja]
 have hS6:(fun _:World=>True) w6:=trivial
 refine J0 6 2 _ hS6 ?_
 try simp only[Ja]
 refine Z3 (by kernel_rfl) ?_ _
 rw[hsz] at own6 b6
 have HF:=Jh (And.intro own6 (HB.out.trans b6))
 clear own6 b6 hr6 own5 b5 hr4 hr7
 go_wp2_with fail
 go_ret
 exact ⟨_,rfl,HF.out.1,HF.out.2⟩
theorem XK {base n cap:Nat} {W:World} (hb:base≤W.heap.size) (hn:n≤cap) (hc:cap≤9223372036854775807):Own u8c 1 5 base (W.alloc (.cells (madeCells (Value.int .u8 0).cells (cap*1)) 5)) (.slice (some ⟨W.heap.size,0,none⟩) n cap) (List.replicate n 0):=by
 have e:=TV (Value.int .u8 0) rfl cap
 rw[e]
 unfold ZH
 rw[List.replicate_zero,List.nil_append,Nat.sub_zero]
 have hf:∀ n,(List.replicate n (0:UInt8)).flatMap u8c=List.replicate n (.int .u8 0):=by
  intro n
  induction n with
  | zero=>rfl
  | succ n ih=>rw[List.replicate_succ,List.flatMap_cons,ih];rfl
 refine ⟨by rw[Zq Z7],.inr ⟨W.heap.size,cap,_,by rw[List.length_replicate],hb,ZD W _,by rw[List.length_replicate];exact hn,by unfold maxLen;exact hc,by simp,?_⟩⟩
 rw[hf,List.length_replicate,Nat.mul_one]
 simp[List.take_replicate,Nat.min_eq_left hn]
theorem Z6L (k:UInt8) (n:Nat):Vg (([83,84]++List.replicate 9 0:List UInt8).set 2 k) 3 n 4=83 :: 84 :: k :: (ZY n++[0,0,0,0]):=by
 have h4:=VT n
 unfold Vg
 rw[List.take_of_length_le (l:=ZY n) (by omega)]
 generalize ZY n=f
 rfl
theorem Z6q (k:UInt8) (n c:Nat) (body:List UInt8):Vg ((83 :: 84 :: k :: (ZY n++[0,0,0,0]))++body) 7 c 4=83 :: 84 :: (k :: ZY n++(ZY c++body)):=by
 have h4:=VT n
 have h5:=VT c
 unfold Vg
 rw[List.take_of_length_le (l:=ZY c) (by omega)]
 generalize ZY c=f
 rw[Ro]
 generalize UInt8.ofNat (n % 256)=a
 generalize UInt8.ofNat (n / 256 % 256)=b
 generalize UInt8.ofNat (n / 65536 % 256)=d
 generalize UInt8.ofNat (n / 16777216 % 256)=e
 simp
theorem Z6F (k:UInt8) (n:Nat) (body:List UInt8):(((83 :: 84 :: k :: (ZY n++[0,0,0,0]))++body).take 7).drop 2++((83 :: 84 :: k :: (ZY n++[0,0,0,0]))++body).drop 11=k :: ZY n++body:=by
 rw[Ro]
 generalize UInt8.ofNat (n % 256)=a
 generalize UInt8.ofNat (n / 256 % 256)=b
 generalize UInt8.ofNat (n / 65536 % 256)=d
 generalize UInt8.ofNat (n / 16777216 % 256)=e
 simp
def Z1Z (w:World) (k:UInt8) (body:List UInt8) (e:Ending) (w':World):Prop :=
 (body.length≤65536∧∃ v,e=.returned (.tuple #[v,.int .i64 0])∧Own u8c 1 5 w.heap.size w' v (Vd k body)∧Below w.heap.size w w') ∨
 (65536<body.length∧e=.returned (.tuple #[.slice none 0 0,.int .i64 1])∧Below w.heap.size w w')
theorem Z5V (k:UInt8) (v:Value) (body:List UInt8) (w:World) (h:Z0 u8c 1 w v body):Calls Tryz.prog 65 #[.int .u8 (k.toNat:Int),v] w fun e w'=>Z1Z w k body e w':=by
 obtain ⟨a,cap,rfl,hcap,hmax,-⟩:=id h
 unfold maxLen at hmax
 by_cases hbig:65536<body.length
 ·have hb1:(65536:Int)<(body.length:Int):=by omega
  go_enter Tryz.func65,Tryz.ntmps65
  go_wp2_with fail
  go_ret2
  exact .inr ⟨hbig,rfl,Below.refl _ _⟩
 have hb1:¬ (65536:Int)<(body.length:Int):=by omega
 obtain ⟨i0,hi,hy0,hy1,hy2⟩:=info_parts Ym
 have hmk:(Instr.makeSlice 22 (.int .i64 11) (.int .i64 (11+(body.length:Int)))).run Tryz.prog w=.ok (.slice (some ⟨w.heap.size,0,none⟩) 11 (11+body.length)) (w.alloc (.cells (madeCells (Value.int .u8 0).cells ((11+body.length)*1)) 5)):=by
  have h:=run_make (P:=Tryz.prog) w 22 5 i0 _ Tryz.underlying22 hi hy0 .i64 .i64 11 (11+(body.length:Int)) (by omega) (by omega) (by rw[hy2];omega) (by omega)
  rw[hy1,show (11+(body.length:Int)).toNat=11+body.length by omega] at h
  exact h
 have hb0:Below w.heap.size w (w.alloc (.cells (madeCells (Value.int .u8 0).cells ((11+body.length)*1)) 5)):=(Below.refl _ _).alloc (Nat.le_refl _) _
 have ho0:=XK (base:=w.heap.size) (n:=11) (cap:=11+body.length) (W:=w) (Nat.le_refl _) (by omega) (by omega)
 have hz0:w.heap.size<(w.alloc (.cells (madeCells (Value.int .u8 0).cells ((11+body.length)*1)) 5)).heap.size:=by simp
 obtain ⟨w1,hw1⟩:=Je (w.alloc (.cells (madeCells (Value.int .u8 0).cells ((11+body.length)*1)) 5))
 rw[hw1] at hmk hb0 ho0 hz0
 clear hw1 hi hy0 hy1 hy2
 obtain ⟨cur,hcur⟩:=ho0.tag (b:=w.heap.size) rfl
 have hcs:cur.size=(11+body.length):=by
  obtain ⟨_,h3⟩:=ho0
  rcases h3 with ⟨e,_⟩|⟨g',cap',cur',e,hb,hg',hn,hm,hs,ht⟩
  ·cases e
  ·cases e
   rw[hcur] at hg'
   cases hg'
   rw[hs,Nat.mul_one]
 have hcp:=Lib.run_copy_row_string (P:=Tryz.prog) w1 22 9 3 5 w.heap.size 0 11 (11+body.length) ⟨#[83,84]⟩ cur 5 Tryz.underlying22 Zl hcur (by decide) (by show 0+2≤_;omega)
 have ho1:=ho0.splice (xs:=[83,84]) Z7 hcur 0 (by simp)
 rw[show ([83,84]:List UInt8).flatMap u8c=Lib.byteCells (⟨#[83,84]⟩:ByteArray).data.toList from rfl] at ho1
 have hx1:=SV w1 w.heap.size (cur.toList.take 0++Lib.byteCells (⟨#[83,84]⟩:ByteArray).data.toList++cur.toList.drop (0+2)).toArray
 obtain ⟨w2,hw2⟩:=Je (w1.setRow w.heap.size (cur.toList.take 0++Lib.byteCells (⟨#[83,84]⟩:ByteArray).data.toList++cur.toList.drop (0+2)).toArray)
 have hcp2:(Builtin.copy_ #[22,9] 3 #[.slice (some ⟨w.heap.size,0,none⟩) 11 (11+body.length),.string ⟨#[83,84]⟩]).run Tryz.prog w1=.ok (.int .i64 2) w2:=by rw[←hw2];exact hcp
 have ho2:Own u8c 1 5 w.heap.size w2 (.slice (some ⟨w.heap.size,0,none⟩) 11 (11+body.length)) ([83,84]++List.replicate 9 0):=by rw[←hw2];exact ho1
 have hb2:Below w.heap.size w w2:=by rw[←hw2];exact Ext.new hb0 hx1 (fun i hi _ e=>by omega) (by omega)
 clear hcp ho1 hx1 hw2 ho0 hcur hcs
 have c2:=Own.cellAt (l:=([83,84]++List.replicate 9 0:List UInt8)) ho2 Z7 (i:=2) (j:=0) (x:=0) rfl rfl
 have f2:=Own.free (l:=([83,84]++List.replicate 9 0:List UInt8)) ho2 2
 have ho3:=Own.setAt (l:=([83,84]++List.replicate 9 0:List UInt8)) ho2 Z7 (i:=2) (j:=0) (x:=0) (y:=k) (u:=.int .u8 (k.toNat:Int)) rfl (by omega) rfl
 rw[show 2*1+0=2 from rfl] at c2 ho3
 have hb3:Below w.heap.size w (w2.setCell ⟨w.heap.size,2,none⟩ (.int .u8 (k.toNat:Int))):=hb2.setCell (Nat.le_refl _) _
 have hs3:=Se (P:=Tryz.prog) Tryz.underlying22 Zl w.heap.size 0 11 (11+body.length) 3 (by omega) (by omega) (by omega)
 have hr3:∀ W,(Instr.slice 22 (.slice (some ⟨w.heap.size,0,none⟩) 11 (11+body.length)) (some (.int .i64 3)) none none).run Tryz.prog W=.ok (.slice (some ⟨w.heap.size,3,none⟩) 8 (11+body.length - 3)) W:=hs3
 have HH:=Lib.hid h
 have H3:=Jh (And.intro ho3 hb3)
 have HZ:=Lib.hid hz0
 have HN:=Jh (show body.length≤65536 by omega)
 clear h hs3 ho3 hb3 ho2 hb2 hb0 hbig hz0
 go_enter Tryz.func65,Tryz.ntmps65
 go_upto_region 4 with fail
 go_wp2_with (with_reducible refine Lib.wpList_copy_run _ rfl _ _ _ _ rfl _ _ rfl rfl hcp2 ?_)
 clear hcp2
 refine (Z1j (n:=body.length) H3.out.1 (by have:=HN.out;omega) (by simp) (by omega) (by omega)).mono ?_
 rintro e w4 ⟨⟨v4,rfl⟩,own4,x4⟩
 rw[Z6L] at own4
 have own4b:Own u8c 1 5 w.heap.size w4 (.slice (some ⟨w.heap.size,0,none⟩) 11 (11+body.length)) (83 :: 84 :: k :: (ZY body.length++[0,0,0,0])):=own4
 have b4:Below w.heap.size w w4:=Ext.new H3.out.2 x4 (fun i hi _ e=>by omega) (by have:=H3.out.2.size;omega)
 have hl11:(83 :: 84 :: k :: (ZY body.length++[0,0,0,0])).length=11:=rfl
 obtain ⟨⟨ua,un,uc⟩,w6,hr6,own6,b6,hsz6⟩:=Xd own4b b4 (HH.out.below b4) b4.size (by rw[hl11];omega)
 clear own4 own4b x4
 go_wp2_with (at_builtin;refine Lib.wpList_append_run _ rfl _ _ _ _ rfl _ _ rfl rfl _ _ hr6 ?_)
 rcases own6.eq_slice with ⟨_,e⟩|⟨g,gc,e,hg1,hg2⟩
 ·simp at e
 injection e with e1 e2 e3
 subst e1
 subst e3
 obtain ⟨F,hF⟩:=Je ((83 :: 84 :: k :: (ZY body.length++[0,0,0,0]))++body)
 have hFl:F.length=11+body.length:=by rw[←hF,List.length_append,hl11]
 rw[hF] at own6 e2
 have hfu:=own6
 rw[e2] at own6
 clear hfu
 have hgc:F.length≤uc∧uc≤9223372036854775807:=(own6.slice Z7).n_eq.2
 have HUN:=Lib.hid e2
 have hun1:un=11+body.length:=by omega
 have hun2:un≤uc:=by omega
 have HU1:=Lib.hid hun1
 have hs7:=Se (P:=Tryz.prog) Tryz.underlying22 Zl g 0 un uc 7 hun2 (by omega) (by omega)
 have hr7:∀ W,(Instr.slice 22 (.slice (some ⟨g,0,none⟩) un uc) (some (.int .i64 7)) none none).run Tryz.prog W=.ok (.slice (some ⟨g,7,none⟩) (un - 7) (uc - 7)) W:=hs7
 have H6:=Jh (And.intro own6 (And.intro b6 hF))
 have hN2:=HN.out
 have hu11:11≤un:=by omega
 have huL:un≤1000000:=by omega
 clear hr6 own6 b6 hF hl11 hs7 e2 hun1 hFl hgc
 refine Z8 (fun _=>True) (fun _=>false) (by kernel_rfl) ?_
 have HB:Hid (Own u8c 1 5 w.heap.size w6.drew (.slice (some ⟨g,0,none⟩) F.length uc) F∧Below w.heap.size w w6.drew):=Lib.hid ⟨H6.out.1,H6.out.2.1.drew⟩
 have hsz:w6.drew.heap.size=w6.heap.size:=rfl
 generalize w6.drew=W1 at HB hsz ⊢
 have hS0:(fun _:World=>True) W1:=trivial
 refine J0 0 28 _ hS0 ?_
 try simp only[Ja]
 refine J0 1 29 (.slice (some ⟨g,7,none⟩) (un - 7) (uc - 7)) hS0 ?_
 try simp only[Ja]
 refine J0 2 30 _ hS0 ?_
 try simp only[Ja]
 refine Zw (i:=3) (d:=some 31) (f:=115) (args:=#[.slice (some ⟨g,0,none⟩) un uc]) (w':=W1) (by kernel_rfl) rfl rfl (by rfl) (by go_simp;try rfl) ?_
 refine (Rb _ F W1 (by have:=HB.out.1.slice Z7;rwa [←HUN.out] at this) (by rw[←HUN.out];exact hu11) (by rw[←HUN.out];exact huL)).mono ?_
 rintro e w7 ⟨v7,rfl,own7,b7⟩
 have ec:(F.take 7).drop 2++F.drop 11=VI k body++body:=by rw[←H6.out.2.2,Z6F];rfl
 rw[ec] at own7
 clear ec
 refine ⟨_,rfl,fun _=>trivial,?_⟩
 try simp only[Ja]
 refine Zw (i:=4) (d:=some 32) (f:=114) (args:=#[v7]) (w':=w7) (by kernel_rfl) rfl rfl (by rfl) (by go_simp;try rfl) ?_
 refine (Z3d v7 _ w7 (own7.slice Z7)).mono ?_
 rintro e w8 ⟨rfl,b8⟩
 have HC:=Jh (Z3i (VI k body++body))
 obtain ⟨c,hc⟩:=Je (WK (VI k body++body))
 have HCC:=Lib.hid hc
 rw[hc] at HC ⊢
 clear hc
 have b17:Below W1.heap.size W1 w8:=b7.trans (b8.mono b7.size)
 have own8:=HB.out.1.below1 b17
 have b08:Below w.heap.size w w8:=HB.out.2.trans (b17.mono HB.out.2.size)
 refine ⟨_,rfl,fun _=>trivial,?_⟩
 try simp only[Ja]
 refine Zw (i:=5) (d:=some 33) (f:=113) (args:=#[.slice (some ⟨g,7,none⟩) (un - 7) (uc - 7),.int .u32 (c:Int)]) (w':=w8) (by kernel_rfl) rfl rfl (by rfl) (by go_simp;try rfl) ?_
 refine (Z1j own8 HC.out (by rw[←HUN.out];omega) (by omega) (by omega)).mono ?_
 rintro e w9 ⟨⟨v9,rfl⟩,own9,x9⟩
 have own9b:Own u8c 1 5 w.heap.size w9 (.slice (some ⟨g,0,none⟩) F.length uc) (Vd k body):=by
  rw[←H6.out.2.2,Z6q,←HCC.out] at own9
  rw[←H6.out.2.2]
  exact own9
 have b09:Below w.heap.size w w9:=Ext.new b08 x9 (fun i hi _ e=>by omega) b08.size
 have HF:=Jh (And.intro own9b b09)
 clear own9 own9b b09 x9 own8 b08 b17 b8 own7 b7
 refine ⟨_,rfl,fun _=>trivial,?_⟩
 try simp only[Ja]
 refine Z3 (by kernel_rfl) ?_ _
 go_wp2_with fail
 go_ret2
 have HF2:=HF.out
 rw[←HUN.out] at HF2
 exact .inl ⟨hN2,_,rfl,HF2.1,HF2.2⟩
end Go.Proofs.YtgmdimbiipemhaaGreatDoor
