/- VAll2, part 6 of what the proof leans on (made short by a program). -/
import Derived.Test.YtlgipkemoldckaaGreatDoorVrZ5
import Derived.LaidMore
import Derived.Lay
import Derived.Test.YtlgipkemoldckaaGreatDoorTie
import Derived.Test.YtlgipkemoldckaaGreatDoorCards
import Derived.Deep.DeepHandedRow
set_option linter.unusedSimpArgs false
set_option linter.unusedVariables false
set_option linter.unusedSectionVars false
set_option maxRecDepth 20000
set_option maxHeartbeats 30000000
namespace Go.Proofs.YtlgipkemoldckaaGreatDoor
open Go.RowKit
theorem NdB.setKids {W:World} {b:Nat} {id:St} {kind:ByteArray} {x y z:Sl} (h:NdB W b id kind x y z) (x':Sl):NdB (W.setCell ⟨b,5,none⟩ (.slice x'.a x'.n x'.cap)) b id kind x y x':=by
 have h:=show W.heap[b]?=_ from h
 show (World.heap _)[b]?=_
 simp only[World.setCell,Array.getElem?_modify,if_true,h]
 rfl
theorem Yz {α:Type} {D:Nat→Prop} {ea:α→List Value} {k:Nat} {W:World}:Zf D ea k W (.slice Z5.a Z5.n Z5.cap) [] :=
 ⟨⟨none,0,rfl,Nat.le_refl _,Nat.zero_le _,fun h=>absurd rfl h⟩,fun b o n c e h=>absurd rfl h⟩
theorem Vu {D:Nat→Prop} {W:World}:ZN D W (.slice Z5.a Z5.n Z5.cap) []:=⟨[],Yz,rfl,fun j x h=>by simp at h⟩
theorem RC (va vk vb gp:Option Addr) (ca ck cb:Nat) (l:List El) (A:List Ch) (ms:List OpD) (rg:St→List Atr) (h:Zz) (w:World)
  (hl:Z6 El.cells 4 w (.slice va l.length ca) l) (hln:l.length≤990) (hul:U0 l) (hv:Z6 Ch.cells 5 w (.slice vk A.length ck) A) (hAl:A.length≤1000) (hA:Yf h A) (hk:Xb h) (ha:U1 h) (h0:h ⟨0,0⟩=none)
  (hm:Z6 OpD.cells 26 w (.slice vb ms.length cb) ms) (hml:ms.length≤1000)
  (hrg:∀ W',Below w.heap.size w W'→∀ u:St,Calls Tryz.prog 44 #[.pointer gp,.agg #[.int .i64 u.n,.int .i64 u.r]] W' fun e w'=>Vo W' (rg u) e w') :
  Calls Tryz.prog 27 #[.slice va l.length ca,.slice vk A.length ck,.pointer gp,.slice vb ms.length cb] w fun e w'=>∃ (x:NdV) (n:Nat),e=.returned (.agg #[.int .i64 x.id.n,.int .i64 x.id.r,.string x.kind,.slice x.attrs.a x.attrs.n x.attrs.cap,.slice x.text.a x.text.n x.text.cap,.slice x.kids.a x.kids.n x.kids.cap]) ∧
   (∀ A':List Ch,Yf (Yd l h A) A'→A'.length+1≤n)∧Zh (fun k=>w.heap.size≤k) w' x ((YP l ms rg h A).tree (XS l ms) n)∧Below w.heap.size w w':=by
 have hmm:=@run_makeMap Tryz.prog
 have hz1:((((w.alloc (.cells #[.int .i64 0,.int .i64 0,.string ⟨#[]⟩,.slice none 0 0,.slice none 0 0,.slice none 0 0] 28)).alloc (.map #[] 0)).alloc (.map #[] 0)).alloc (.cells #[.slice va l.length ca,.map (some (w.heap.size+1)),.map (some (w.heap.size+1+1)),.pointer gp,.slice vb ms.length cb] 105)).heap.size=w.heap.size+4:=by simp
 have hB0:Below w.heap.size w ((((w.alloc (.cells #[.int .i64 0,.int .i64 0,.string ⟨#[]⟩,.slice none 0 0,.slice none 0 0,.slice none 0 0] 28)).alloc (.map #[] 0)).alloc (.map #[] 0)).alloc (.cells #[.slice va l.length ca,.map (some (w.heap.size+1)),.map (some (w.heap.size+1+1)),.pointer gp,.slice vb ms.length cb] 105)):=((((Below.refl _ _).alloc (Nat.le_refl _) _).alloc (by simp) _).alloc (by simp;omega) _).alloc (by simp;omega) _
 have hrb:NdB ((((w.alloc (.cells #[.int .i64 0,.int .i64 0,.string ⟨#[]⟩,.slice none 0 0,.slice none 0 0,.slice none 0 0] 28)).alloc (.map #[] 0)).alloc (.map #[] 0)).alloc (.cells #[.slice va l.length ca,.map (some (w.heap.size+1)),.map (some (w.heap.size+1+1)),.pointer gp,.slice vb ms.length cb] 105)) w.heap.size ⟨0,0⟩ ⟨#[]⟩ Z5 Z5 Z5:=(Xw w).ext ((((Ext.refl (fun _=>False) _).alloc _).alloc _).alloc _) (fun f=>f)
 have hpm:Z4 St.val Spn.val ((((w.alloc (.cells #[.int .i64 0,.int .i64 0,.string ⟨#[]⟩,.slice none 0 0,.slice none 0 0,.slice none 0 0] 28)).alloc (.map #[] 0)).alloc (.map #[] 0)).alloc (.cells #[.slice va l.length ca,.map (some (w.heap.size+1)),.map (some (w.heap.size+1+1)),.pointer gp,.slice vb ms.length cb] 105)) (w.heap.size+1) []:=by
  have:=((Z4.made (ek:=St.val) (ev:=Spn.val) (w.alloc (.cells #[.int .i64 0,.int .i64 0,.string ⟨#[]⟩,.slice none 0 0,.slice none 0 0,.slice none 0 0] 28))).alloc (.map #[] 0)).alloc (.cells #[.slice va l.length ca,.map (some (w.heap.size+1)),.map (some (w.heap.size+1+1)),.pointer gp,.slice vb ms.length cb] 105)
  rwa [World.size_alloc] at this
 have hkm:Z4 St.val Sl.val ((((w.alloc (.cells #[.int .i64 0,.int .i64 0,.string ⟨#[]⟩,.slice none 0 0,.slice none 0 0,.slice none 0 0] 28)).alloc (.map #[] 0)).alloc (.map #[] 0)).alloc (.cells #[.slice va l.length ca,.map (some (w.heap.size+1)),.map (some (w.heap.size+1+1)),.pointer gp,.slice vb ms.length cb] 105)) (w.heap.size+1+1) []:=by
  have:=(Z4.made (ek:=St.val) (ev:=Sl.val) ((w.alloc (.cells #[.int .i64 0,.int .i64 0,.string ⟨#[]⟩,.slice none 0 0,.slice none 0 0,.slice none 0 0] 28)).alloc (.map #[] 0))).alloc (.cells #[.slice va l.length ca,.map (some (w.heap.size+1)),.map (some (w.heap.size+1+1)),.pointer gp,.slice vb ms.length cb] 105)
  rwa [World.size_alloc,World.size_alloc] at this
 have hbd:BdB ((((w.alloc (.cells #[.int .i64 0,.int .i64 0,.string ⟨#[]⟩,.slice none 0 0,.slice none 0 0,.slice none 0 0] 28)).alloc (.map #[] 0)).alloc (.map #[] 0)).alloc (.cells #[.slice va l.length ca,.map (some (w.heap.size+1)),.map (some (w.heap.size+1+1)),.pointer gp,.slice vb ms.length cb] 105)) ⟨w.heap.size+1+1+1,w.heap.size+1,w.heap.size+1+1,va,ca,vb,cb,.pointer gp,l,ms⟩ gp:=by
  have:=World.alloc_heap_new (((w.alloc (.cells #[.int .i64 0,.int .i64 0,.string ⟨#[]⟩,.slice none 0 0,.slice none 0 0,.slice none 0 0] 28)).alloc (.map #[] 0)).alloc (.map #[] 0)) (.cells #[.slice va l.length ca,.map (some (w.heap.size+1)),.map (some (w.heap.size+1+1)),.pointer gp,.slice vb ms.length cb] 105)
  rw[World.size_alloc,World.size_alloc,World.size_alloc] at this
  exact ⟨rfl,this⟩
 have hl1:=hl.below hB0
 have hv1:=hv.below hB0
 have hm1:=hm.below hB0
 have HRG:=Jh (fun W (hW:Below w.heap.size w W)=>hrg W hW)
 have hnd:A.Pairwise (fun a b=>a.block≠b.block):=hA.2.imp (fun {a b} h e=>by rw[e] at h;exact Y0 _ h)
 have hA0:∀ c∈A,c.block≠⟨0,0⟩:=fun c hc e=>by have:=(hA.1 c).1 hc;rw[e,h0] at this;cases this
 have HP0:=Jh (And.intro hnd hA0)
 have HHK:=Jh (And.intro hA (And.intro hk (And.intro ha h0)))
 have HIN:=Jh (And.intro hl1 (And.intro hv1 hm1))
 have HI0:=Jh (And.intro hl (And.intro hv hm))
 have HB0:=Lib.hid hB0
 have HRB:=Lib.hid hrb
 have HPM:=Lib.hid hpm
 have HKM:=Lib.hid hkm
 have HBD:=Lib.hid hbd
 have HZ1:=Lib.hid hz1
 have HUL:=Lib.hid hul
 clear hnd hA0 hA hk ha h0 hl hv hm hrg hl1 hv1 hm1 hB0 hrb hpm hkm hbd hz1 hul
 go_enter Tryz.func27,Tryz.ntmps27
 go_upto_region 2 with fail
 generalize ((((w.alloc (.cells #[.int .i64 0,.int .i64 0,.string ⟨#[]⟩,.slice none 0 0,.slice none 0 0,.slice none 0 0] 28)).alloc (.map #[] 0)).alloc (.map #[] 0)).alloc (.cells #[.slice va l.length ca,.map (some (w.heap.size+1)),.map (some (w.heap.size+1+1)),.pointer gp,.slice vb ms.length cb] 105))=w1 at *
 obtain ⟨pb,kb,bb,hpb,hkb,hbb⟩:∃ pb kb bb,w.heap.size+1=pb∧w.heap.size+1+1=kb∧w.heap.size+1+1+1=bb:=⟨_,_,_,rfl,rfl,rfl⟩
 have hord:w.heap.size<pb∧pb<kb∧kb<bb∧bb<w1.heap.size:=by have:=HZ1.out;omega
 rw[hbb,hkb,hpb] at HBD ⊢
 rw[hkb] at HKM
 rw[hpb] at HPM
 obtain ⟨ho1,ho2,ho3,ho4⟩:=hord
 clear hpb hkb hbb HZ1 hmm
 go_wp2_with fail
 refine (Rb va ca l w1 HIN.out.1 (by omega)).mono ?_
 rintro e w2 ⟨u,rfl,hown,b2⟩
 obtain ⟨n0,R,hP⟩:=VJ l
 have hR:ZJ l=R.map (fun s=>(s.blk,s)):=by unfold ZJ;rw[hP];rfl
 have hnk:=TS HUL.out
 have hRl:R.length≤l.length:=by have:=UB l;rw[hP] at this;simp at this;omega
 rw[hP] at hown
 rcases hown.eq_slice with ⟨_,e⟩|⟨gb,cs,rfl,hg1,hg2⟩
 ·cases e
 obtain ⟨_,_,e,hcs1,hcs2,-⟩:=hown.slice (fun _=>rfl)
 cases e
 unfold maxLen at hcs2
 obtain ⟨a1,c1,hsl,hS1⟩:=SC (P:=Tryz.prog) (ea:=Spn.cells) RS RE (some ⟨gb,0,none⟩) (R.length+1) cs 1 hcs1 (by omega)
 have hsl2:∀ W,(Instr.slice 106 (.slice (some ⟨gb,0,none⟩) (R.length+1) cs) (some (.int .i64 1)) none none).run Tryz.prog W=.ok (.slice a1 R.length c1) W:=hsl
 have hz2:=b2.size
 have HS1:Hid (∀ W,Ext (·=pb) w2 W→Z6 Spn.cells 4 W (.slice a1 R.length c1) R):=Jh (fun W hW=>hS1 W (⟨⟨0,0⟩,0,n0⟩ :: R) rfl ((hown.ext hW (fun j hj e=>by have:=(hown.blk j hj).1;omega)).slice (fun _=>rfl)))
 have HOW:=Lib.hid hown
 have HPR:=Jh (And.intro hP hR)
 have HNK:=Lib.hid hnk
 have HB2:=Jh (HB0.out.trans (b2.mono HB0.out.size))
 have HPM2:=Jh (HPM.out.below b2)
 have HKM2:=Jh (HKM.out.below b2)
 have HBD2:=Jh (HBD.out.ext (Ext.of_below (S:=fun _=>False) b2) (fun f=>f))
 have HRB2:=Jh (HRB.out.ext (Ext.of_below (S:=fun _=>False) b2) (fun f=>f))
 clear hsl hS1 hown hP hR hnk b2 HB0 HPM HKM HBD HRB HIN HUL
 have hlen0:∀ (s:Spn) (r:List Spn),(s :: r).length=r.length+1:=fun _ _=>rfl
 simp only[hlen0]
 clear hlen0
 go_wp2_with fail
 go_loopg [27] R.length (fun g iv wx=>∃ k:Nat,g=R.length - k∧k≤R.length∧iv=.int .i64 k∧Hid (Z4 St.val Spn.val wx pb ((ZJ l).take k))∧Hid (Ext (·=pb) w2 wx))
 case atStart=>exact ⟨0,rfl,Nat.zero_le _,rfl,HPM2,Jh (Ext.refl _ _)⟩
 case round =>
  obtain ⟨k,hg,hk,rfl,HM,HX⟩:=hrel
  have HG:=Lib.hid hg
  have hwz:=HX.out.size
  clear hg
  have hbd:=HBD2.out.ext HX.out (fun e=>by (try simp only at e);omega)
  by_cases hlt:k<R.length
  ·obtain ⟨x,hx⟩:∃ x,R[k]?=some x:=⟨_,List.getElem?_eq_getElem hlt⟩
   have hkk:(k:Int)<(R.length:Int):=by omega
   have hk0:(0:Int)≤(k:Int):=by omega
   obtain ⟨ba,oa,ca1,e1,hcs⟩:=(HS1.out _ HX.out).spcells (by intro e;rw[e] at hlt;simp at hlt)
   cases e1
   obtain ⟨y0,y1,y2,y3⟩:=hcs k _ hx
   have hpk:(ZJ l)[k]?=some (x.blk,x):=by rw[HPR.out.2,List.getElem?_map,hx];rfl
   have hfr:x.blk∉((ZJ l).take k).map (·.1):=by
    intro hm
    have hnd:=HNK.out
    have hkl:=(List.getElem?_eq_some_iff.1 hpk).1
    rw[←List.take_append_drop k (ZJ l),List.map_append,List.nodup_append] at hnd
    refine hnd.2.2 _ hm x.blk (List.mem_map.2 ⟨(x.blk,x),?_,rfl⟩) rfl
    exact List.mem_iff_getElem?.2 ⟨0,by rw[List.getElem?_drop];exact hpk⟩
   have hst:Zw ((ZJ l).take k) x.blk x=(ZJ l).take (k+1):=by rw[Q7 hfr,List.take_add_one,hpk];rfl
   have HST:=Lib.hid hst
   obtain ⟨⟨xn,xr⟩,xlo,xhi⟩:=x
   simp only at y0 y1 y2 y3
   clear hx hcs hpk hfr hst
   go_upto_region 6 with fail
   have hsb:SpB (wr.alloc (.cells #[.int .i64 xn,.int .i64 xr,.int .i64 xlo,.int .i64 xhi] 109)) wr.heap.size ⟨xn,xr⟩ xlo xhi:=World.alloc_heap_new wr _
   have hm4:=HM.out.alloc (.cells #[.int .i64 xn,.int .i64 xr,.int .i64 xlo,.int .i64 xhi] 109)
   have hx4:=Jh (HX.out.alloc (.cells #[.int .i64 xn,.int .i64 xr,.int .i64 xlo,.int .i64 xhi] 109))
   obtain ⟨d0,d1,d2,d3,d4⟩:=(hbd.ext ((Ext.refl (fun _=>False) wr).alloc (.cells #[.int .i64 xn,.int .i64 xr,.int .i64 xlo,.int .i64 xhi] 109)) (fun f=>f)).cells
   clear y0 y1 y2 y3 hbd d0 d2 d3 d4
   generalize wr.alloc (.cells #[.int .i64 xn,.int .i64 xr,.int .i64 xlo,.int .i64 xhi] 109)=w4 at *
   obtain ⟨s0,s1,s2,s3,-⟩:=hsb.cells
   have hupd:(Instr.mapUpdate 102 (.map (some pb)) (.agg #[.int .i64 xn,.int .i64 xr]) (.agg #[.int .i64 xn,.int .i64 xr,.int .i64 xlo,.int .i64 xhi])).run Tryz.prog w4.drew=.ok () (Zo w4.drew pb (Zv ((ZJ l).take k) ⟨xn,xr⟩) (St.val ⟨xn,xr⟩) (Spn.val ⟨⟨xn,xr⟩,xlo,xhi⟩)):=hm4.drew.update ZU Ua ⟨xn,xr⟩ _
   have hS0:(fun W:World=>W.cell? ⟨bb,1,none⟩=some (.map (some pb))∧W.cell? ⟨wr.heap.size,0,none⟩=some (.int .i64 xn)∧W.cell? ⟨wr.heap.size,1,none⟩=some (.int .i64 xr)∧W.cell? ⟨wr.heap.size,2,none⟩=some (.int .i64 xlo)∧W.cell? ⟨wr.heap.size,3,none⟩=some (.int .i64 xhi)) w4.drew:=⟨d1,s0,s1,s2,s3⟩
   refine Zq (fun W:World=>W.cell? ⟨bb,1,none⟩=some (.map (some pb))∧W.cell? ⟨wr.heap.size,0,none⟩=some (.int .i64 xn)∧W.cell? ⟨wr.heap.size,1,none⟩=some (.int .i64 xr)∧W.cell? ⟨wr.heap.size,2,none⟩=some (.int .i64 xlo)∧W.cell? ⟨wr.heap.size,3,none⟩=some (.int .i64 xhi)) (fun i=>i == 7) (by kernel_rfl) ?_
   refine JR 0 31 _ rfl rfl hS0 (fun W hW=>by obtain ⟨q0,q1,q2,q3,q4⟩:=hW;go_simp;try rfl) ?_
   try simp only[Ja]
   refine JR 1 32 _ rfl rfl hS0 (fun W hW=>by obtain ⟨q0,q1,q2,q3,q4⟩:=hW;go_simp;try rfl) ?_
   try simp only[Ja]
   refine JR 2 33 _ rfl rfl hS0 (fun W hW=>by obtain ⟨q0,q1,q2,q3,q4⟩:=hW;go_simp;try rfl) ?_
   try simp only[Ja]
   refine JR 3 34 (.map (some pb)) rfl rfl hS0 (fun W hW=>by obtain ⟨q0,q1,q2,q3,q4⟩:=hW;go_simp;try rfl) ?_
   try simp only[Ja]
   refine JR 4 35 _ rfl rfl hS0 (fun W hW=>by obtain ⟨q0,q1,q2,q3,q4⟩:=hW;go_simp;try rfl) ?_
   try simp only[Ja]
   refine JR 5 36 (.agg #[.int .i64 xn,.int .i64 xr]) rfl rfl hS0 (fun W hW=>by obtain ⟨q0,q1,q2,q3,q4⟩:=hW;go_simp;try rfl) ?_
   try simp only[Ja]
   refine JR 6 37 (.agg #[.int .i64 xn,.int .i64 xr,.int .i64 xlo,.int .i64 xhi]) rfl rfl hS0 (fun W hW=>by obtain ⟨q0,q1,q2,q3,q4⟩:=hW;go_simp;try rfl) ?_
   try simp only[Ja]
   refine Zn (i:=7) (d:=none) (w':=Zo w4.drew pb (Zv ((ZJ l).take k) ⟨xn,xr⟩) (St.val ⟨xn,xr⟩) (Spn.val ⟨⟨xn,xr⟩,xlo,xhi⟩)) (by kernel_rfl) rfl rfl (by rfl) (by go_simp;try rw[hupd]) (fun h=>by cases h) ?_
   try simp only[Ja]
   refine Zi (by kernel_rfl) ?_ _
   have HM5:=Jh (hm4.drew.put ⟨xn,xr⟩ (⟨⟨xn,xr⟩,xlo,xhi⟩:Spn))
   have HX5:=Jh (Ext.trans (⟨hx4.out.os,hx4.out.tape,hx4.out.output,hx4.out.size,hx4.out.block⟩:Ext (·=pb) w2 w4.drew) (YE w4.drew pb (Zv ((ZJ l).take k) ⟨xn,xr⟩) (St.val ⟨xn,xr⟩) (Spn.val ⟨⟨xn,xr⟩,xlo,xhi⟩)))
   clear hS0 hupd hm4 hx4 hsb s0 s1 s2 s3 d1
   generalize Zo w4.drew pb (Zv ((ZJ l).take k) ⟨xn,xr⟩) (St.val ⟨xn,xr⟩) (Spn.val ⟨⟨xn,xr⟩,xlo,xhi⟩)=w5 at *
   go_wp2_with fail
   go_roundg (R.length - (k+1))
   case measure=>rw[HG.out];omega
   case rel=>exact ⟨k+1,rfl,hlt,by go_num,by rw[←HST.out];exact HM5,HX5⟩
  ·obtain rfl:k=R.length:=by omega
   have hkk:¬ (R.length:Int)<(R.length:Int):=by omega
   have hpr:(ZJ l).length=R.length:=by rw[HPR.out.2,List.length_map]
   rw[←hpr,List.take_length] at HM
   have HPL:=Lib.hid hpr
   clear hpr hlt hk
   obtain ⟨-,d1,d2,-,-⟩:=hbd.cells
   have HBD3:=Lib.hid hbd
   have HB3:=Jh (Ext.new HB2.out HX.out (fun i hi _ e=>by omega) HB2.out.size)
   have hkm3:=HKM2.out.ext HX.out (fun e=>by (try simp only at e);omega)
   have HRB3:=Jh (HRB2.out.ext HX.out (fun e=>by (try simp only at e);omega))
   have HOW3:=Jh (HOW.out.ext HX.out (fun j hj e=>by have:=(HOW.out.blk j hj).1;omega))
   have HKM3:=Lib.hid hkm3
   clear hbd hkm3 HBD2 HKM2 HRB2 HS1 HPM2
   go_wp2_with fail
   refine (Rc bb kb pb vk ck A (ZJ l) wr d1 d2 HM.out (by rw[HPL.out];omega) HKM3.out (HI0.out.2.1.below HB3.out) hAl HP0.out.1 HP0.out.2 (by omega)).mono ?_
   rintro e w5 ⟨rfl,C,F,lk,g,hkm5,hF,hx5⟩
   have hz5:=hx5.size
   have hb5:=Ext.new HB3.out hx5 (fun i hi _ e=>by (try simp only at e);omega) HB3.out.size
   have hbd5:=HBD3.out.ext hx5 (fun e=>by (try simp only at e);omega)
   have hpm5:=HM.out.ext hx5 (fun e=>by (try simp only at e);omega)
   obtain ⟨D,hD,hDl⟩:=Qk HHK.out.1 HHK.out.2.1 g
   rw[HPL.out] at hDl
   have hbi:=Qm (b:=⟨bb,pb,kb,va,ca,vb,cb,.pointer gp,l,ms⟩) hbd5 (HI0.out.1.below hb5) (HI0.out.2.2.below hb5) ⟨by show l.length≤1000;omega,hml⟩ HHK.out.1 HHK.out.2.1 hpm5 g hkm5 hF (fun W hW=>HRG.out W (hb5.trans (hW.mono hb5.size)))
   have HBI:=Lib.hid hbi
   have HB5:=Lib.hid hb5
   have HDD:=Lib.hid hD
   have HRB5:=Jh (HRB3.out.ext hx5 (fun e=>by (try simp only at e);omega))
   have HOW5:=Jh (HOW3.out.ext hx5 (fun j hj e=>by have:=(HOW3.out.blk j hj).1;(try simp only at e);omega))
   have hw5:w1.heap.size≤w5.heap.size:=by omega
   clear g hkm5 hF hx5 hb5 hbd5 hpm5 hbi hD HM HX HKM3 HRB3 HOW3 HBD3 HB3 HP0 HRG HNK HPL d1 d2 hkk
   go_upto_region 10 with fail
   have hdn:NdB (w5.alloc (.cells #[.int .i64 0,.int .i64 0,.string ⟨#[100,111,99]⟩,.slice none 0 0,.slice none 0 0,.slice none 0 0] 28)) w5.heap.size ⟨0,0⟩ ⟨#[100,111,99]⟩ Z5 Z5 Z5:=World.alloc_heap_new w5 _
   have hb6:Below w5.heap.size w5 (w5.alloc (.cells #[.int .i64 0,.int .i64 0,.string ⟨#[100,111,99]⟩,.slice none 0 0,.slice none 0 0,.slice none 0 0] 28)):=(Below.refl _ _).alloc (Nat.le_refl _) _
   have hz6:(w5.alloc (.cells #[.int .i64 0,.int .i64 0,.string ⟨#[100,111,99]⟩,.slice none 0 0,.slice none 0 0,.slice none 0 0] 28)).heap.size=w5.heap.size+1:=by simp
   have how6:=HOW5.out.alloc (.cells #[.int .i64 0,.int .i64 0,.string ⟨#[100,111,99]⟩,.slice none 0 0,.slice none 0 0,.slice none 0 0] 28)
   generalize w5.alloc (.cells #[.int .i64 0,.int .i64 0,.string ⟨#[100,111,99]⟩,.slice none 0 0,.slice none 0 0,.slice none 0 0] 28)=w6 at *
   have HZ6:=Lib.hid hz6
   have hz6l:w5.heap.size<w6.heap.size:=by omega
   obtain ⟨ba,oa,ca1,e1,hcs⟩:=(how6.slice (fun _=>rfl)).spcells (by simp)
   cases e1
   obtain ⟨y0,y1,y2,y3⟩:=hcs 0 _ rfl
   simp only[Nat.zero_mul,Nat.add_zero,Nat.zero_add] at y0 y1 y2 y3
   have y2b:w6.cell? ⟨gb,2,none⟩=some (.int .i64 0):=y2
   have hsl6:=HI0.out.1.below (HB5.out.trans (hb6.mono HB5.out.size))
   have hop6:=HI0.out.2.2.below (HB5.out.trans (hb6.mono HB5.out.size))
   have HSL6:=Lib.hid hsl6
   have HOP6:=Lib.hid hop6
   have HDN:=Lib.hid hdn
   have HB6:=Lib.hid hb6
   have hRn:(0:Int)<((R.length+1:Nat):Int):=by omega
   clear hz6 how6 hcs hsl6 hop6 hdn hb6 y2 HOW5 HOW
   go_wp2_with fail
   refine (VT va vb ca cb l ms 0 0 0 n0 w6 HSL6.out HOP6.out (by omega) hml).mono ?_
   rintro e w7 ⟨q,rfl,hq,b7⟩
   have hfp:XS l ms=YI l ms 0 n0:=by unfold XS;rw[HPR.out.1];rfl
   rw[←hfp] at hq
   obtain ⟨F0,hF0⟩:=Je (XS l ms)
   rw[hF0] at hq
   have HF0:=Lib.hid hF0
   obtain ⟨qa,qc,rfl,hq1,hq2⟩:=hq.out.shape
   have HQ:=Lib.hid hq.out.toD
   have hz7:=b7.size
   have HD7:=Jh (HDN.out.ext (Ext.of_below (S:=fun _=>False) b7) (fun f=>f))
   have HB7:=Jh (HB6.out.trans (b7.mono (Nat.le_of_lt hz6l)))
   clear hfp hF0 hq b7 y0 y1 y2b y3 hRn HSL6 HOP6 HDN HB6
   obtain ⟨B,hBe⟩:∃ B,B=w7.heap.size:=⟨_,rfl⟩
   have hB1:w5.heap.size<B:=by omega
   have hB2:B≤w7.heap.size:=by omega
   clear hBe
   by_cases hF:F0=[]
   ·subst hF
    simp only[List.length_nil]
    go_upto_region 13 with fail
    have HB8:=Lib.hid HB7.out
    have HND8:=Lib.hid HD7.out
    have HOK8:=Jh (Own.nil:Own NdV.cells 6 28 B w7 Z5.val [])
    have HNS8:=Jh (Zc.nil:Zc (fun j=>w.heap.size<j∧j≠w5.heap.size∧¬ Z5.val.ownBlock=some j) w7 [] [])
    have hlv:([]:List NdV).length≤1:=by first|exact Nat.zero_le _|exact Nat.le_refl _
    generalize w7=w8 at *
    have hz8:=HB8.out.size
    have hrow:=XK (YP l ms rg h A) ⟨bb,pb,kb,va,ca,vb,cb,.pointer gp,l,ms⟩ D (XB HHK.out.2.1) (Wd HHK.out.2.2.1 HHK.out.2.2.2) HDD.out (by omega) (D.length+1) ⟨0,0⟩ 0 w8 (HBI.out.below HB8.out) (YD HHK.out.2.2.2) (by omega)
    have hrl:=Vw.row_le (V:=YP l ms rg h A) (n:=D.length+1) (b:=⟨0,0⟩) (m:=0) HDD.out (YD HHK.out.2.2.2)
    have HROW:=Lib.hid hrow
    clear hrow
    obtain ⟨-,-,-,-,-,d5,-⟩:=HND8.out.cells
    simp only[Z5] at d5
    have HS:Hid (∀ W,Below w8.heap.size w8 W→W.cell? ⟨w5.heap.size,5,none⟩=some (.slice none 0 0)):=Jh (fun W hW=>Z0 hW d5)
    have hS0:(fun W:World=>W.cell? ⟨w5.heap.size,5,none⟩=some (.slice none 0 0)) w8.drew:=d5
    have hb8d:Below w8.heap.size w8 w8.drew:=(Below.refl _ _).drew
    refine Zq (fun W:World=>W.cell? ⟨w5.heap.size,5,none⟩=some (.slice none 0 0)) (fun i=>i == 7) (by kernel_rfl) ?_
    refine JR 0 59 _ rfl rfl hS0 (fun W hW=>by have q0:=hW;go_simp;try rfl) ?_
    try simp only[Ja]
    refine JR 1 60 (.slice none 0 0) rfl rfl hS0 (fun W hW=>by have q0:=hW;go_simp;try rfl) ?_
    try simp only[Ja]
    refine JR 2 61 _ rfl rfl hS0 (fun W hW=>by have q0:=hW;go_simp;try rfl) ?_
    try simp only[Ja]
    refine JR 3 62 (.agg #[.int .i64 0,.int .i64 0]) rfl rfl hS0 (fun W hW=>by have q0:=hW;go_simp;try rfl) ?_
    try simp only[Ja]
    refine ZR (i:=4) (d:=some 63) (w':=w8.drew) (by kernel_rfl) rfl rfl (by rfl) (by go_simp;try rfl) (((XK (YP l ms rg h A) ⟨bb,pb,kb,va,ca,vb,cb,.pointer gp,l,ms⟩ D (XB HHK.out.2.1) (Wd HHK.out.2.2.1 HHK.out.2.2.2) HDD.out (by omega) (D.length+1) ⟨0,0⟩ 0 w8.drew ((HBI.out.below HB8.out).below hb8d) (YD HHK.out.2.2.2) (by omega))).mono ?_)
    rintro e w9 ⟨v9,us,rfl,hown9,hn9,b9⟩
    have hb9:Below w8.heap.size w8 w9:=hb8d.trans b9
    have hul:us.length≤D.length:=by rw[hn9.1];exact hrl
    have hz9:=hb9.size
    have hok9:=HOK8.out.ext (Ext.of_below (S:=fun _=>False) hb9) (fun _ _ f=>f)
    have hS9:=HS.out _ hb9
    obtain ⟨⟨ga,gn,gc⟩,rfl⟩:=hown9.sl20
    obtain ⟨i0,hi,hz0,hz1,hz2'⟩:=info_parts W9
    obtain ⟨v10,w10,hr10,hown10,hx10,hfr10⟩:=Wi (P:=Tryz.prog) 26 26 i0 (.agg #[.int .i64 0,.int .i64 0,.string ⟨#[]⟩,.slice none 0 0,.slice none 0 0,.slice none 0 0]) 104 Xm hi hz0 hz1 hz2' rfl (by omega) NdV.len NdV.one hok9 hown9 (by unfold maxLen;omega) (by omega) (by omega)
    obtain ⟨⟨g8,n8,c8⟩,rfl⟩:=hown10.sl20
    have hblk:∀ j,(Sl.val Z5).ownBlock=some j→B≤j∧j<w8.heap.size:=fun j hj=>HOK8.out.blk j hj
    have hxz:=hx10.size
    have hnd10:=(HND8.out.ext (Ext.of_below (S:=fun _=>False) hb9) (fun f=>f)).ext hx10 (fun e=>by have:=hblk _ e;omega)
    have hrb10:=(((HRB5.out.ext (Ext.of_below (S:=fun _=>False) HB8.out) (fun f=>f)).ext (Ext.of_below (S:=fun _=>False) hb9) (fun f=>f)).ext hx10 (fun e=>by have:=hblk _ e;omega))
    obtain ⟨e0,e1,e2,e3,e4,e5,ef⟩:=hnd10.cells
    simp only[Z5] at e3 e4 e5
    have ef5:=ef 5
    have hS10:(fun W:World=>W.cell? ⟨w5.heap.size,5,none⟩=some (.slice none 0 0)) w10:=e5
    (try simp only[Sl.val,Z5] at hr10)
    refine ⟨_,rfl,fun _=>hS9,?_⟩
    try simp only[Ja]
    refine Zg (i:=5) (d:=some 64) (v:=.slice g8 n8 c8) (w':=w10) (by kernel_rfl) rfl rfl (by rfl) (Xt rfl rfl rfl hr10) (fun _=>hS10) ?_
    try simp only[Ja]
    refine JR 6 65 _ rfl rfl hS10 (fun W hW=>by have q0:=hW;go_simp;try rfl) ?_
    try simp only[Ja]
    refine Zn (i:=7) (d:=none) (w':=w10.setCell ⟨w5.heap.size,5,none⟩ (.slice g8 n8 c8)) (by kernel_rfl) rfl rfl (by rfl) (by go_simp;try rfl) (fun h=>by cases h) ?_
    try simp only[Ja]
    refine Zi (by kernel_rfl) ?_ _
    have hnd11:=hnd10.setKids ⟨g8,n8,c8⟩
    have hxd:Ext (·=w5.heap.size) w10 (w10.setCell ⟨w5.heap.size,5,none⟩ (.slice g8 n8 c8)):=(Ext.refl (·=w5.heap.size) w10).setCell (p:=⟨w5.heap.size,5,none⟩) (.inr rfl) _
    have hob10:∀ j,(Value.slice g8 n8 c8).ownBlock=some j→B≤j:=fun j hj=>by rcases hfr10 j hj with k|k;exact (hblk j k).1;omega
    have hrb11:=hrb10.ext hxd (fun e=>by have:=HB5.out.size;(try simp only at e);omega)
    have hown11:=hown10.ext hxd (fun j hj e=>by have:=hob10 j hj;(try simp only at e);omega)
    have hns11:Zc (fun j=>w.heap.size<j) (w10.setCell ⟨w5.heap.size,5,none⟩ (.slice g8 n8 c8)) (([]:List NdV)++us) (([]:List Nd)++(YP l ms rg h A).row (D.length+1) ⟨0,0⟩):=by
     refine Zc.append ?_ ?_
     ·refine (((HNS8.out.ext (Ext.of_below (S:=fun _=>False) hb9) (fun _ _ _ f=>f)).ext hx10 (fun j hj _ e=>hj.2.2 e)).ext hxd (fun j hj _ e=>hj.2.1 e)).mono (fun j hj=>hj.1)
     ·refine ((hn9.monoL (D':=fun j=>w8.heap.size≤j) (fun j hj hl=>hj.1)).ext hx10 (fun j hj _ e=>by have:=hblk _ e;omega)).ext hxd (fun j hj _ e=>by (try simp only at e);omega) |>.mono (fun j hj=>by have:=HB5.out.size;omega)
    have hb11:Below w.heap.size w (w10.setCell ⟨w5.heap.size,5,none⟩ (.slice g8 n8 c8)):=by
     have q1:=HB5.out.trans ((HB8.out.trans (hb9.mono hz8)).mono HB5.out.size)
     have q2:=Ext.new q1 hx10 (fun i hi _ e=>by have:=hblk _ e;have:=HB5.out.size;omega) q1.size
     exact Ext.new q2 hxd (fun i hi _ e=>by have:=HB5.out.size;(try simp only at e);omega) q2.size
    have HND:=Lib.hid hnd11
    have HRB:=Lib.hid hrb11
    have HOWN:=Lib.hid hown11
    have HNS:=Lib.hid hns11
    have HB11:=Lib.hid hb11
    clear hnd11 hrb11 hown11 hns11 hb11 hnd10 hrb10 hxd hx10 hr10 hown10 e0 e1 e2 e3 e4 e5 ef ef5 hS0 hS9 hS10 d5 HS
    generalize w10.setCell ⟨w5.heap.size,5,none⟩ (.slice g8 n8 c8)=w11 at *
    obtain ⟨g0,g1,g2,g3,g4,g5,-⟩:=HND.out.cells
    obtain ⟨r0,r1,r2,r3,r4,r5,rf⟩:=HRB.out.cells
    have rf0:=rf 0
    have rf1:=rf 1
    have rf2:=rf 2
    have rf3:=rf 3
    have rf4:=rf 4
    have rf5:=rf 5
    simp only[Z5] at g3 g4 g5 r3 r4 r5
    simp only at g0 g1 g2 r0 r1 r2
    clear rf
    go_wp2_with fail
    (try simp only[Exit.inBlock,Exit.then])
    refine bodyPost_ret (v:=.agg #[.int .i64 0,.int .i64 0,.string ⟨#[100,111,99]⟩,.slice none 0 0,.slice none 0 0,.slice g8 n8 c8]) (by rw[Xz rfl];go_simp) rfl ?_
    have hfx:Ext (·=w.heap.size) w11 ((((((w11.setCell ⟨w.heap.size,0,none⟩ (.int .i64 0)).setCell ⟨w.heap.size,1,none⟩ (.int .i64 0)).setCell ⟨w.heap.size,2,none⟩ (.string ⟨#[100,111,99]⟩)).setCell ⟨w.heap.size,3,none⟩ (.slice none 0 0)).setCell ⟨w.heap.size,4,none⟩ (.slice none 0 0)).setCell ⟨w.heap.size,5,none⟩ (.slice g8 n8 c8)) :=
     ((((((Ext.refl (·=w.heap.size) w11).setCell (p:=⟨w.heap.size,0,none⟩) (.inr rfl) _).setCell (p:=⟨w.heap.size,1,none⟩) (.inr rfl) _).setCell (p:=⟨w.heap.size,2,none⟩) (.inr rfl) _).setCell (p:=⟨w.heap.size,3,none⟩) (.inr rfl) _).setCell (p:=⟨w.heap.size,4,none⟩) (.inr rfl) _).setCell (p:=⟨w.heap.size,5,none⟩) (.inr rfl) _
    have hbs5:=HB5.out.size
    have ho2:=HOWN.out.ext hfx (fun j hj e=>by have:=(HOWN.out.blk j hj).1;(try simp only at e);omega)
    refine ⟨⟨⟨0,0⟩,⟨#[100,111,99]⟩,Z5,Z5,⟨g8,n8,c8⟩⟩,rfl,D.length+1,fun A' hA'=>by rw[hA'.unique HDD.out];exact Nat.le_refl _,?_,Ext.new HB11.out hfx (fun i hi _ e=>by (try simp only at e);omega) HB11.out.size⟩
    unfold Vw.tree
    rw[HF0.out,if_pos rfl]
    refine Zh.make rfl rfl Yz Vu ((ho2.sliceD NdV.len).mono (fun j hj=>by have:=(ho2.blk j hj).1;omega)) ((HNS.out.ext hfx (fun j hj _ e=>by (try simp only at e);omega)).mono (fun j hj=>Nat.le_of_lt hj))
   ·have hF1:(0:Int)<(F0.length:Int):=by have:=List.length_pos_iff.2 hF;omega
    have HNF:=Lib.hid hF
    clear hF
    obtain ⟨d0,d1,d2,d3,d4,d5,df⟩:=HD7.out.cells
    simp only[Z5] at d5
    have df5:=df 5
    clear d0 d1 d2 d3 d4 df
    have hdl:=HD7.out.lt
    obtain ⟨i1,hi1,hz01,hz11,hz21⟩:=info_parts W9
    obtain ⟨x1,hx1⟩:∃ x1:NdV,x1=⟨⟨0,0⟩,ZH,Z5,⟨qa,F0.length,qc⟩,Z5⟩:=⟨_,rfl⟩
    go_wp2_with (at_builtin;refine Zt (l:=[]) rfl _ _ _ rfl i1 (.agg #[.int .i64 0,.int .i64 0,.string ⟨#[]⟩,.slice none 0 0,.slice none 0 0,.slice none 0 0]) 104 Xm hi1 hz01 hz11 hz21 rfl (by omega) NdV.len NdV.one rfl (Own.nil:Own NdV.cells 6 28 B _ (.slice none 0 0) []) (⟨⟨0,0⟩,ZH,Z5,⟨qa,F0.length,qc⟩,Z5⟩:NdV) w7.heap.size 1 rfl ?_ (by unfold maxLen;simp) (by simp) (by simp;omega) ?_)
    ·intro j u hj
     match j,hj with
     | 0,hj=>simp[NdV.cells] at hj;subst hj;(try simp only[ZH,Z5]);go_simp
     | 1,hj=>simp[NdV.cells] at hj;subst hj;(try simp only[ZH,Z5]);go_simp
     | 2,hj=>simp[NdV.cells] at hj;subst hj;(try simp only[ZH,Z5]);go_simp
     | 3,hj=>simp[NdV.cells] at hj;subst hj;(try simp only[ZH,Z5]);go_simp
     | 4,hj=>simp[NdV.cells] at hj;subst hj;(try simp only[ZH,Z5]);go_simp
     | 5,hj=>simp[NdV.cells] at hj;subst hj;(try simp only[ZH,Z5]);go_simp
     | n+6,hj=>simp[NdV.cells] at hj
    ·intro v8 wy hown8 hx8 hfr8
     (try simp only[List.nil_append] at hown8)
     obtain ⟨⟨kg,kn,kc⟩,rfl⟩:=hown8.sl20
     have hxy:Ext (fun _=>False) w7 wy:=Ext.new2 ((Ext.refl (fun _=>False) w7).alloc _) hx8 (fun j _ e=>by simp[Value.ownBlock] at e)
     have hfy:∀ j,(Value.slice kg kn kc).ownBlock=some j→w7.heap.size<j:=fun j hj=>by
      rcases hfr8 j hj with k|k
      ·cases k
      ·first|exact k|(have k2:=k;rw[World.size_alloc] at k2;omega)|(have k2:=k;simp at k2;omega)
     have hndy:=HD7.out.ext hxy (fun f=>f)
     have hzy:=hxy.size
     obtain ⟨-,-,-,-,-,e5,ef⟩:=hndy.cells
     simp only[Z5] at e5
     have ef5:=ef 5
     clear ef hx8 hfr8 d5 df5
     have HY:=Jh (And.intro hxy (And.intro hown8 (And.intro hfy hndy)))
     clear hxy hown8 hfy hndy
     go_upto_region 13 with fail
     obtain ⟨hxy,hown8,hfy,hndy⟩:=HY.out
     have hxd:Ext (·=w5.heap.size) wy (wy.setCell ⟨w5.heap.size,5,none⟩ (.slice kg kn kc)):=(Ext.refl (·=w5.heap.size) wy).setCell (p:=⟨w5.heap.size,5,none⟩) (.inr rfl) _
     have hownz:=hown8.ext hxd (fun j hj e=>by have:=(hown8.blk j hj).1;(try simp only at e);omega)
     have hb5w:=HB5.out.size
     have hnsz:Zc (fun j=>w.heap.size<j∧j≠w5.heap.size∧¬ (Sl.mk kg kn kc).val.ownBlock=some j) (wy.setCell ⟨w5.heap.size,5,none⟩ (.slice kg kn kc)) [(⟨⟨0,0⟩,ZH,Z5,⟨qa,F0.length,qc⟩,Z5⟩:NdV)] [Nd.mk ⟨0,0⟩ ZH [] F0 []]:=by
      refine Zc.one (Zh.make rfl rfl Yz ?_ (vs:=[]) Yz Zc.nil)
      refine ((HQ.out.ext hxy (fun _ _ _ f=>f)).ext hxd (fun j hj _ e=>by (try simp only at e);omega)).mono (fun j hj=>⟨by omega,by omega,fun e=>by have:=hfy j e;omega⟩)
     have hndz:=hndy.setKids ⟨kg,kn,kc⟩
     have hbz:Below w5.heap.size w5 (wy.setCell ⟨w5.heap.size,5,none⟩ (.slice kg kn kc)):=Ext.new (Ext.new HB7.out hxy (fun i _ _ f=>f) HB7.out.size) hxd (fun i hi _ e=>by (try simp only at e);omega) (by have:=HB7.out.size;omega)
     have hB3:B≤(wy.setCell ⟨w5.heap.size,5,none⟩ (.slice kg kn kc)).heap.size:=by have:=hxd.size;omega
     clear hxy hown8 hfy hndy hxd HY e5 ef5
     have HB8:=Lib.hid hbz
     have HND8:=Lib.hid hndz
     have HOK8:=Lib.hid hownz
     have HNS8:=Lib.hid hnsz
     have hlv:[(⟨⟨0,0⟩,ZH,Z5,⟨qa,F0.length,qc⟩,Z5⟩:NdV)].length≤1:=by first|exact Nat.zero_le _|exact Nat.le_refl _
     generalize wy.setCell ⟨w5.heap.size,5,none⟩ (.slice kg kn kc)=w8 at *
     have hz8:=HB8.out.size
     have hrow:=XK (YP l ms rg h A) ⟨bb,pb,kb,va,ca,vb,cb,.pointer gp,l,ms⟩ D (XB HHK.out.2.1) (Wd HHK.out.2.2.1 HHK.out.2.2.2) HDD.out (by omega) (D.length+1) ⟨0,0⟩ 0 w8 (HBI.out.below HB8.out) (YD HHK.out.2.2.2) (by omega)
     have hrl:=Vw.row_le (V:=YP l ms rg h A) (n:=D.length+1) (b:=⟨0,0⟩) (m:=0) HDD.out (YD HHK.out.2.2.2)
     have HROW:=Lib.hid hrow
     clear hrow
     obtain ⟨-,-,-,-,-,d5,-⟩:=HND8.out.cells
     simp only[Z5] at d5
     have HS:Hid (∀ W,Below w8.heap.size w8 W→W.cell? ⟨w5.heap.size,5,none⟩=some (.slice kg kn kc)):=Jh (fun W hW=>Z0 hW d5)
     have hS0:(fun W:World=>W.cell? ⟨w5.heap.size,5,none⟩=some (.slice kg kn kc)) w8.drew:=d5
     have hb8d:Below w8.heap.size w8 w8.drew:=(Below.refl _ _).drew
     refine Zq (fun W:World=>W.cell? ⟨w5.heap.size,5,none⟩=some (.slice kg kn kc)) (fun i=>i == 7) (by kernel_rfl) ?_
     refine JR 0 59 _ rfl rfl hS0 (fun W hW=>by have q0:=hW;go_simp;try rfl) ?_
     try simp only[Ja]
     refine JR 1 60 (.slice kg kn kc) rfl rfl hS0 (fun W hW=>by have q0:=hW;go_simp;try rfl) ?_
     try simp only[Ja]
     refine JR 2 61 _ rfl rfl hS0 (fun W hW=>by have q0:=hW;go_simp;try rfl) ?_
     try simp only[Ja]
     refine JR 3 62 (.agg #[.int .i64 0,.int .i64 0]) rfl rfl hS0 (fun W hW=>by have q0:=hW;go_simp;try rfl) ?_
     try simp only[Ja]
     refine ZR (i:=4) (d:=some 63) (w':=w8.drew) (by kernel_rfl) rfl rfl (by rfl) (by go_simp;try rfl) (((XK (YP l ms rg h A) ⟨bb,pb,kb,va,ca,vb,cb,.pointer gp,l,ms⟩ D (XB HHK.out.2.1) (Wd HHK.out.2.2.1 HHK.out.2.2.2) HDD.out (by omega) (D.length+1) ⟨0,0⟩ 0 w8.drew ((HBI.out.below HB8.out).below hb8d) (YD HHK.out.2.2.2) (by omega))).mono ?_)
     rintro e w9 ⟨v9,us,rfl,hown9,hn9,b9⟩
     have hb9:Below w8.heap.size w8 w9:=hb8d.trans b9
     have hul:us.length≤D.length:=by rw[hn9.1];exact hrl
     have hz9:=hb9.size
     have hok9:=HOK8.out.ext (Ext.of_below (S:=fun _=>False) hb9) (fun _ _ f=>f)
     have hS9:=HS.out _ hb9
     obtain ⟨⟨ga,gn,gc⟩,rfl⟩:=hown9.sl20
     obtain ⟨i0,hi,hz0,hz1,hz2'⟩:=info_parts W9
     obtain ⟨v10,w10,hr10,hown10,hx10,hfr10⟩:=Wi (P:=Tryz.prog) 26 26 i0 (.agg #[.int .i64 0,.int .i64 0,.string ⟨#[]⟩,.slice none 0 0,.slice none 0 0,.slice none 0 0]) 104 Xm hi hz0 hz1 hz2' rfl (by omega) NdV.len NdV.one hok9 hown9 (by unfold maxLen;omega) (by omega) (by omega)
     obtain ⟨⟨g8,n8,c8⟩,rfl⟩:=hown10.sl20
     have hblk:∀ j,(Sl.val (Sl.mk kg kn kc)).ownBlock=some j→B≤j∧j<w8.heap.size:=fun j hj=>HOK8.out.blk j hj
     have hxz:=hx10.size
     have hnd10:=(HND8.out.ext (Ext.of_below (S:=fun _=>False) hb9) (fun f=>f)).ext hx10 (fun e=>by have:=hblk _ e;omega)
     have hrb10:=(((HRB5.out.ext (Ext.of_below (S:=fun _=>False) HB8.out) (fun f=>f)).ext (Ext.of_below (S:=fun _=>False) hb9) (fun f=>f)).ext hx10 (fun e=>by have:=hblk _ e;omega))
     obtain ⟨e0,e1,e2,e3,e4,e5,ef⟩:=hnd10.cells
     simp only[Z5] at e3 e4 e5
     have ef5:=ef 5
     have hS10:(fun W:World=>W.cell? ⟨w5.heap.size,5,none⟩=some (.slice kg kn kc)) w10:=e5
     (try simp only[Sl.val] at hr10)
     refine ⟨_,rfl,fun _=>hS9,?_⟩
     try simp only[Ja]
     refine Zg (i:=5) (d:=some 64) (v:=.slice g8 n8 c8) (w':=w10) (by kernel_rfl) rfl rfl (by rfl) (Xt rfl rfl rfl hr10) (fun _=>hS10) ?_
     try simp only[Ja]
     refine JR 6 65 _ rfl rfl hS10 (fun W hW=>by have q0:=hW;go_simp;try rfl) ?_
     try simp only[Ja]
     refine Zn (i:=7) (d:=none) (w':=w10.setCell ⟨w5.heap.size,5,none⟩ (.slice g8 n8 c8)) (by kernel_rfl) rfl rfl (by rfl) (by go_simp;try rfl) (fun h=>by cases h) ?_
     try simp only[Ja]
     refine Zi (by kernel_rfl) ?_ _
     have hnd11:=hnd10.setKids ⟨g8,n8,c8⟩
     have hxd:Ext (·=w5.heap.size) w10 (w10.setCell ⟨w5.heap.size,5,none⟩ (.slice g8 n8 c8)):=(Ext.refl (·=w5.heap.size) w10).setCell (p:=⟨w5.heap.size,5,none⟩) (.inr rfl) _
     have hob10:∀ j,(Value.slice g8 n8 c8).ownBlock=some j→B≤j:=fun j hj=>by rcases hfr10 j hj with k|k;exact (hblk j k).1;omega
     have hrb11:=hrb10.ext hxd (fun e=>by have:=HB5.out.size;(try simp only at e);omega)
     have hown11:=hown10.ext hxd (fun j hj e=>by have:=hob10 j hj;(try simp only at e);omega)
     have hns11:Zc (fun j=>w.heap.size<j) (w10.setCell ⟨w5.heap.size,5,none⟩ (.slice g8 n8 c8)) ([(⟨⟨0,0⟩,ZH,Z5,⟨qa,F0.length,qc⟩,Z5⟩:NdV)]++us) ([Nd.mk ⟨0,0⟩ ZH [] F0 []]++(YP l ms rg h A).row (D.length+1) ⟨0,0⟩):=by
      refine Zc.append ?_ ?_
      ·refine (((HNS8.out.ext (Ext.of_below (S:=fun _=>False) hb9) (fun _ _ _ f=>f)).ext hx10 (fun j hj _ e=>hj.2.2 e)).ext hxd (fun j hj _ e=>hj.2.1 e)).mono (fun j hj=>hj.1)
      ·refine ((hn9.monoL (D':=fun j=>w8.heap.size≤j) (fun j hj hl=>hj.1)).ext hx10 (fun j hj _ e=>by have:=hblk _ e;omega)).ext hxd (fun j hj _ e=>by (try simp only at e);omega) |>.mono (fun j hj=>by have:=HB5.out.size;omega)
     have hb11:Below w.heap.size w (w10.setCell ⟨w5.heap.size,5,none⟩ (.slice g8 n8 c8)):=by
      have q1:=HB5.out.trans ((HB8.out.trans (hb9.mono hz8)).mono HB5.out.size)
      have q2:=Ext.new q1 hx10 (fun i hi _ e=>by have:=hblk _ e;have:=HB5.out.size;omega) q1.size
      exact Ext.new q2 hxd (fun i hi _ e=>by have:=HB5.out.size;(try simp only at e);omega) q2.size
     have HND:=Lib.hid hnd11
     have HRB:=Lib.hid hrb11
     have HOWN:=Lib.hid hown11
     have HNS:=Lib.hid hns11
     have HB11:=Lib.hid hb11
     clear hnd11 hrb11 hown11 hns11 hb11 hnd10 hrb10 hxd hx10 hr10 hown10 e0 e1 e2 e3 e4 e5 ef ef5 hS0 hS9 hS10 d5 HS
     generalize w10.setCell ⟨w5.heap.size,5,none⟩ (.slice g8 n8 c8)=w11 at *
     obtain ⟨g0,g1,g2,g3,g4,g5,-⟩:=HND.out.cells
     obtain ⟨r0,r1,r2,r3,r4,r5,rf⟩:=HRB.out.cells
     have rf0:=rf 0
     have rf1:=rf 1
     have rf2:=rf 2
     have rf3:=rf 3
     have rf4:=rf 4
     have rf5:=rf 5
     simp only[Z5] at g3 g4 g5 r3 r4 r5
     simp only at g0 g1 g2 r0 r1 r2
     clear rf
     go_wp2_with fail
     (try simp only[Exit.inBlock,Exit.then])
     refine bodyPost_ret (v:=.agg #[.int .i64 0,.int .i64 0,.string ⟨#[100,111,99]⟩,.slice none 0 0,.slice none 0 0,.slice g8 n8 c8]) (by rw[Xz rfl];go_simp) rfl ?_
     have hfx:Ext (·=w.heap.size) w11 ((((((w11.setCell ⟨w.heap.size,0,none⟩ (.int .i64 0)).setCell ⟨w.heap.size,1,none⟩ (.int .i64 0)).setCell ⟨w.heap.size,2,none⟩ (.string ⟨#[100,111,99]⟩)).setCell ⟨w.heap.size,3,none⟩ (.slice none 0 0)).setCell ⟨w.heap.size,4,none⟩ (.slice none 0 0)).setCell ⟨w.heap.size,5,none⟩ (.slice g8 n8 c8)) :=
      ((((((Ext.refl (·=w.heap.size) w11).setCell (p:=⟨w.heap.size,0,none⟩) (.inr rfl) _).setCell (p:=⟨w.heap.size,1,none⟩) (.inr rfl) _).setCell (p:=⟨w.heap.size,2,none⟩) (.inr rfl) _).setCell (p:=⟨w.heap.size,3,none⟩) (.inr rfl) _).setCell (p:=⟨w.heap.size,4,none⟩) (.inr rfl) _).setCell (p:=⟨w.heap.size,5,none⟩) (.inr rfl) _
     have hbs5:=HB5.out.size
     have ho2:=HOWN.out.ext hfx (fun j hj e=>by have:=(HOWN.out.blk j hj).1;(try simp only at e);omega)
     refine ⟨⟨⟨0,0⟩,⟨#[100,111,99]⟩,Z5,Z5,⟨g8,n8,c8⟩⟩,rfl,D.length+1,fun A' hA'=>by rw[hA'.unique HDD.out];exact Nat.le_refl _,?_,Ext.new HB11.out hfx (fun i hi _ e=>by (try simp only at e);omega) HB11.out.size⟩
     unfold Vw.tree
     rw[HF0.out,if_neg HNF.out]
     refine Zh.make rfl rfl Yz Vu ((ho2.sliceD NdV.len).mono (fun j hj=>by have:=(ho2.blk j hj).1;omega)) ((HNS.out.ext hfx (fun j hj _ e=>by (try simp only at e);omega)).mono (fun j hj=>Nat.le_of_lt hj))
def Y7:List El:=[⟨⟨1,0⟩,0,false⟩,⟨⟨2,0⟩,97,false⟩]
theorem S0:Ye Y7=[⟨⟨0,0⟩,0,0⟩,⟨⟨1,0⟩,1,2⟩]:=by rfl
theorem TH:XS Y7 []=[]:=by
 rw[XS,S0]
 simp only[List.head?_cons,Option.elim]
 rw[YI,if_neg (by simp[Y7])]
 rfl
theorem Tk:U0 Y7:=by
 unfold U0 Y7
 refine List.pairwise_cons.2 ⟨fun y hy=>?_,List.pairwise_singleton _ _⟩
 rw[List.mem_singleton.1 hy]
 decide
abbrev noH:Zz:=fun _=>none
theorem QG:Yf noH []:=⟨fun c=>by simp[noH],List.Pairwise.nil⟩
theorem RH:Xb noH:=fun k c h=>by simp[noH] at h
theorem Q4:U1 noH:=fun u=>⟨0,rfl⟩
theorem Ww (s:St):Xr Y7 s=true↔s=⟨1,0⟩:=by
 rw[Rd]
 constructor
 ·rintro ⟨x,hx,hb,rfl⟩
  simp only[Y7,List.mem_cons,List.not_mem_nil,or_false] at hx
  rcases hx with rfl|rfl
  ·rfl
  ·simp[Xn] at hb
 ·rintro rfl
  exact ⟨⟨⟨1,0⟩,0,false⟩,by simp[Y7],by decide,rfl⟩
theorem VB (s:St):Yd Y7 noH [] s=if s=⟨1,0⟩ then some (ZS ⟨1,0⟩) else none:=by
 by_cases h:s=⟨1,0⟩
 ·subst h
  rw[if_pos rfl,Xv rfl ⟨by decide,.inl ((Ww _).2 rfl)⟩]
 ·rw[if_neg h]
  refine Xi rfl (fun hc=>?_)
  rcases hc.2 with h1|⟨d,hd,_⟩
  ·exact h ((Ww _).1 h1)
  ·simp at hd
theorem Rh:Yf (Yd Y7 noH []) [ZS ⟨1,0⟩]:=by
 refine ⟨fun c=>?_,List.pairwise_singleton _ _⟩
 rw[VB,List.mem_singleton]
 constructor
 ·rintro rfl;rfl
 ·intro h
  split at h
  ·exact (Option.some.inj h).symm
  ·cases h
theorem Sj:Yc (Yd Y7 noH []) ⟨0,0⟩=[ZS ⟨1,0⟩]:=by
 refine Tq ⟨fun c=>?_,List.pairwise_singleton _ _⟩
 rw[VB,List.mem_singleton]
 constructor
 ·rintro rfl;exact ⟨rfl,rfl⟩
 ·rintro ⟨h,_⟩
  split at h
  ·exact (Option.some.inj h).symm
  ·cases h
theorem Re (rg:St→List Atr) (n:Nat):((YP Y7 [] rg noH []).tree (XS Y7 []) (n+1)).kids=[(YP Y7 [] rg noH []).nd ⟨1,0⟩ ((YP Y7 [] rg noH []).row n ⟨1,0⟩)]:=by
 rw[Vw.tree,TH,if_pos rfl,List.nil_append,Nd.kids,Vw.row_succ]
 rw[show (YP Y7 [] rg noH []).H=Yd Y7 noH [] from rfl,Sj,List.flatMap_cons,List.flatMap_nil,List.append_nil,Vw.one]
 rw[if_pos (show (YP Y7 [] rg noH []).live (ZS ⟨1,0⟩).block=true from (Ww _).2 rfl)]
 rfl
def SN:ByteArray:=⟨#[100,111,99]⟩
theorem Qy:txN 0 (.mk ⟨0,0⟩ SN [] [] [])=[100,111,99,10]:=by
 simp[txN,ZP,idL,txK,ByteArray.toList_eq,SN]
theorem UJ (w:World) (ht:Yo w):Calls Tryz.prog 11 #[] w fun e w'=>e=.returned (.bool true)∧Below w.heap.size w w':=by
 have hB0:Below w.heap.size w (w.alloc (.cells #[.int .i64 1,.int .i64 0,.int .i64 0,.bool false,.int .i64 2,.int .i64 0,.int .i64 97,.bool false] 46)):=(Below.refl _ _).alloc (Nat.le_refl _) _
 have hsl:Z6 El.cells 4 (w.alloc (.cells #[.int .i64 1,.int .i64 0,.int .i64 0,.bool false,.int .i64 2,.int .i64 0,.int .i64 97,.bool false] 46)) (.slice (some ⟨w.heap.size,0,none⟩) Y7.length 2) Y7:=by
  refine ⟨some ⟨w.heap.size,0,none⟩,2,rfl,by decide,by decide,fun _=>⟨w.heap.size,0,rfl,fun i x hi j u hj=>?_⟩⟩
  have hh:=World.alloc_heap_new w (.cells #[.int .i64 1,.int .i64 0,.int .i64 0,.bool false,.int .i64 2,.int .i64 0,.int .i64 97,.bool false] 46)
  rw[Lib.cell_of_heap hh]
  match i,hi with
  | 0,hi =>
   cases hi
   match j,hj with
   | 0,hj=>exact hj
   | 1,hj=>exact hj
   | 2,hj=>exact hj
   | 3,hj=>exact hj
   | j+4,hj=>simp[El.cells] at hj
  | 1,hi =>
   cases hi
   match j,hj with
   | 0,hj=>exact hj
   | 1,hj=>exact hj
   | 2,hj=>exact hj
   | 3,hj=>exact hj
   | j+4,hj=>simp[El.cells] at hj
  | i+2,hi=>simp[Y7] at hi
 have HC:=Jh (RC (some ⟨w.heap.size,0,none⟩) none none none 2 0 0 Y7 [] [] (fun _=>[]) noH _ hsl (by decide) Tk ⟨none,0,rfl,Nat.le_refl _,Nat.zero_le _,fun h=>absurd rfl h⟩ (by decide) QG RH Q4 rfl
  ⟨none,0,rfl,Nat.le_refl _,Nat.zero_le _,fun h=>absurd rfl h⟩ (by decide) (fun W' _ u=>(Qc u.n u.r W').mono fun e w' ⟨he,hb⟩=>⟨_,he,Own.nil,by simp,hb⟩))
 have HB0:=Lib.hid hB0
 have HT:=Lib.hid ht
 clear hB0 hsl ht
 go_enter Tryz.func11,Tryz.ntmps11
 go_wp2_with fail
 generalize w.alloc (.cells #[.int .i64 1,.int .i64 0,.int .i64 0,.bool false,.int .i64 2,.int .i64 0,.int .i64 97,.bool false] 46)=w1 at *
 refine HC.out.mono ?_
 rintro e w2 ⟨x,n,rfl,hn,hnd,b2⟩
 have hn2:=hn _ Rh
 obtain ⟨n,rfl⟩:∃ m,n=m+1:=⟨n - 1,by simp at hn2;omega⟩
 obtain ⟨-,-,-,-,vs,hsv,hvk⟩:=hnd.parts
 rw[Re] at hvk
 obtain ⟨y,rfl⟩:∃ y,vs=[y]:=by
  have:=hvk.1
  match vs,this with
  | [y],_=>exact ⟨y,rfl⟩
 have hy:=(hvk.2 0 y _ rfl rfl).parts.1
 obtain ⟨⟨xn,xr⟩,xk,⟨aa,an,ac⟩,⟨ta,tn,tc⟩,⟨sa,sn,sc⟩⟩:=x
 obtain ⟨q,o,c,e5,u0,u1,-,-,-,-⟩:=hsv.node6 (k:=0) rfl
 injection e5 with e5 e6 e7
 have e6:sn=1:=e6
 subst e5 e6 e7
 rw[hy] at u0 u1
 have v0:w2.cell? ⟨q,o,none⟩=some (.int .i64 1):=u0
 have v1:w2.cell? ⟨q,o+1,none⟩=some (.int .i64 0):=u1
 have hB2:=HB0.out.trans (b2.mono HB0.out.size)
 have hB3:=hB2.alloc (by have:=hB2.size;omega) (.cells #[.int .i64 xn,.int .i64 xr,.string xk,.slice aa an ac,.slice ta tn tc,.slice (some ⟨q,o,none⟩) 1 sc] 28)
 replace v0:=Z2 v0 (.cells #[.int .i64 xn,.int .i64 xr,.string xk,.slice aa an ac,.slice ta tn tc,.slice (some ⟨q,o,none⟩) 1 sc] 28)
 replace v1:=Z2 v1 (.cells #[.int .i64 xn,.int .i64 xr,.string xk,.slice aa an ac,.slice ta tn tc,.slice (some ⟨q,o,none⟩) 1 sc] 28)
 have x5:(w2.alloc (.cells #[.int .i64 xn,.int .i64 xr,.string xk,.slice aa an ac,.slice ta tn tc,.slice (some ⟨q,o,none⟩) 1 sc] 28)).cell? ⟨w2.heap.size,5,none⟩=some (.slice (some ⟨q,o,none⟩) 1 sc):=by go_simp
 have HB3:=Lib.hid hB3
 have hrd:∀ W,Below w.heap.size w W→Calls Tryz.prog 12 #[.agg #[.int .i64 0,.int .i64 0,.string ⟨#[100,111,99]⟩,.slice none 0 0,.slice none 0 0,.slice none 0 0]] W fun e w'=>e=.returned (.string ⟨#[100,111,99,10]⟩)∧Below W.heap.size W w':=fun W hW=>by
  have hnod:Zh (fun _=>False) W ⟨⟨0,0⟩,SN,Z5,Z5,Z5⟩ (.mk ⟨0,0⟩ SN [] [] []):=Zh.make rfl rfl Yz Vu Yz Zc.nil
  have:=XC _ _ _ W hnod (fun _ h=>h.elim) (HT.out.below hW) (by rw[Qy];simp)
  rw[Qy] at this
  exact this
 have HR:=Lib.hid hrd
 clear hrd u0 u1 hB2 hB3 hy hvk hsv hnd hn hn2 b2
 go_upto_region 2 with fail
 generalize w2.alloc (.cells #[.int .i64 xn,.int .i64 xr,.string xk,.slice aa an ac,.slice ta tn tc,.slice (some ⟨q,o,none⟩) 1 sc] 28)=w3 at *
 go_wp2_with fail
 refine (HR.out w3 HB3.out).mono ?_
 rintro e w4 ⟨rfl,b4⟩
 have HB4:=Jh (HB3.out.trans (b4.mono HB3.out.size))
 clear b4
 go_wp2_with fail
 go_ret
 exact ⟨rfl,HB4.out⟩
end Go.Proofs.YtlgipkemoldckaaGreatDoor
namespace Go.Proofs.YtlgipkemoldckaaGreatDoor
open Go.RowKit Go.Deep
theorem TA (n:Nd) (x:NdV) (w:World) (hn:Zh (fun b=>b<w.heap.size) w x n) (ht:Yo w) (hbig:(txN 0 n).length≤35184372088832) :
  Calls Tryz.prog 3 #[x.val] w fun e w'=>e=.returned (.bool true)∧Below w.heap.size w w':=by
 obtain ⟨⟨xn,xr⟩,xk,⟨aa,an,ac⟩,⟨ta,tn,tc⟩,⟨sa,sn,sc⟩⟩:=x
 have hB0:Below w.heap.size w (w.alloc (.cells #[.int .i64 xn,.int .i64 xr,.string xk,.slice aa an ac,.slice ta tn tc,.slice sa sn sc] 28)):=(Below.refl _ _).alloc (Nat.le_refl _) _
 have x0:(w.alloc (.cells #[.int .i64 xn,.int .i64 xr,.string xk,.slice aa an ac,.slice ta tn tc,.slice sa sn sc] 28)).cell? ⟨w.heap.size,0,none⟩=some (.int .i64 xn):=by go_simp
 have x1:(w.alloc (.cells #[.int .i64 xn,.int .i64 xr,.string xk,.slice aa an ac,.slice ta tn tc,.slice sa sn sc] 28)).cell? ⟨w.heap.size,1,none⟩=some (.int .i64 xr):=by go_simp
 have x2:(w.alloc (.cells #[.int .i64 xn,.int .i64 xr,.string xk,.slice aa an ac,.slice ta tn tc,.slice sa sn sc] 28)).cell? ⟨w.heap.size,2,none⟩=some (.string xk):=by go_simp
 have x3:(w.alloc (.cells #[.int .i64 xn,.int .i64 xr,.string xk,.slice aa an ac,.slice ta tn tc,.slice sa sn sc] 28)).cell? ⟨w.heap.size,3,none⟩=some (.slice aa an ac):=by go_simp
 have x4:(w.alloc (.cells #[.int .i64 xn,.int .i64 xr,.string xk,.slice aa an ac,.slice ta tn tc,.slice sa sn sc] 28)).cell? ⟨w.heap.size,4,none⟩=some (.slice ta tn tc):=by go_simp
 have x5:(w.alloc (.cells #[.int .i64 xn,.int .i64 xr,.string xk,.slice aa an ac,.slice ta tn tc,.slice sa sn sc] 28)).cell? ⟨w.heap.size,5,none⟩=some (.slice sa sn sc):=by go_simp
 have HA:Hid (∀ W,Below w.heap.size w W→Calls Tryz.prog 11 #[] W fun e w'=>e=.returned (.bool true)∧Below W.heap.size W w'):=Jh (fun W h=>UJ W (ht.below h))
 have HR:Hid (∀ W,Below w.heap.size w W→Calls Tryz.prog 12 #[.agg #[.int .i64 xn,.int .i64 xr,.string xk,.slice aa an ac,.slice ta tn tc,.slice sa sn sc]] W fun e w'=>e=.returned (.string ⟨(txN 0 n).toArray⟩)∧Below W.heap.size W w'):=Jh (fun W h=>XC n _ ⟨⟨xn,xr⟩,xk,⟨aa,an,ac⟩,⟨ta,tn,tc⟩,⟨sa,sn,sc⟩⟩ W (hn.belowW h) (fun k hk=>by have:=h.size;omega) (ht.below h) hbig)
 have HS:Hid (∀ W,Below w.heap.size w W→Calls Tryz.prog 13 #[.agg #[.int .i64 xn,.int .i64 xr,.string xk,.slice aa an ac,.slice ta tn tc,.slice sa sn sc]] W fun e w'=>e=.returned (.string ⟨(txN 0 n).toArray⟩)∧Below W.heap.size W w'):=Jh (fun W h=>TT n _ ⟨⟨xn,xr⟩,xk,⟨aa,an,ac⟩,⟨ta,tn,tc⟩,⟨sa,sn,sc⟩⟩ W (hn.belowW h) hbig)
 have HC:Hid (∀ W,Below w.heap.size w W→Calls Tryz.prog 10 #[.agg #[.int .i64 xn,.int .i64 xr,.string xk,.slice aa an ac,.slice ta tn tc,.slice sa sn sc],.int .i64 300] W fun e w'=>∃ c:Nat,e=.returned (.int .i64 c)∧1≤c∧c≤301∧Below W.heap.size W w'):=Jh (fun W h=>Wl n 300 _ ⟨⟨xn,xr⟩,xk,⟨aa,an,ac⟩,⟨ta,tn,tc⟩,⟨sa,sn,sc⟩⟩ W (hn.belowW h) (by omega))
 have HB0:=Lib.hid hB0
 clear hB0 hn ht hbig
 unfold NdV.val
 generalize txN 0 n=T at *
 go_enter Tryz.func3,Tryz.ntmps3
 go_upto_region 1 with fail
 generalize (w.alloc (.cells #[.int .i64 xn,.int .i64 xr,.string xk,.slice aa an ac,.slice ta tn tc,.slice sa sn sc] 28))=w1 at *
 go_wp2_with fail
 refine (HC.out w1 HB0.out).mono ?_
 rintro e w2 ⟨c,rfl,hc1,hc2,b2⟩
 have HB2:=Jh (HB0.out.trans (b2.mono HB0.out.size))
 replace x0:=Z0 b2 x0
 replace x1:=Z0 b2 x1
 replace x2:=Z0 b2 x2
 replace x3:=Z0 b2 x3
 replace x4:=Z0 b2 x4
 replace x5:=Z0 b2 x5
 clear b2 HC HB0
 by_cases hcc:(c:Int) > 300
 ·go_wp2_with fail
  refine (HA.out w2 HB2.out).mono ?_
  rintro e w3 ⟨rfl,b3⟩
  go_wp2_with fail
  go_ret
  exact ⟨rfl,HB2.out.trans (b3.mono HB2.out.size)⟩
 ·have HBd:Below w.heap.size w w2.drew:=HB2.out.drew
  go_upto_region 3 with fail
  go_region_held3 (fun W=>Below w.heap.size w W∧W.cell? ⟨w.heap.size,0,none⟩=some (.int .i64 xn)∧W.cell? ⟨w.heap.size,1,none⟩=some (.int .i64 xr)∧W.cell? ⟨w.heap.size,2,none⟩=some (.string xk)∧W.cell? ⟨w.heap.size,3,none⟩=some (.slice aa an ac)∧W.cell? ⟨w.heap.size,4,none⟩=some (.slice ta tn tc)∧W.cell? ⟨w.heap.size,5,none⟩=some (.slice sa sn sc)) (refine ⟨?_,?_,?_,?_,?_,?_,?_⟩ <;> first|assumption|exact HB2.out|exact hb7|exact hb6|exact hb5|exact Z0 b5 (by assumption)|exact Z0 b6 (Z0 b5 (by assumption))|exact Z0 b7 (Z0 b6 (Z0 b5 (by assumption)))) (first|(go_at_call 11;((with_reducible refine (HA.out _ HBd).mono ?_);rintro e w5 ⟨rfl,b5⟩;(try simp only[ZI,ZA] at b5);have hb5:=HB2.out.trans (b5.mono HB2.out.size)))|(go_at_call 12;((with_reducible refine (HR.out _ (by first|exact hb6|exact hb5)).mono ?_);first|(rintro e w7 ⟨rfl,b7⟩;have hb7:=hb6.trans (b7.mono hb6.size))|(rintro e w6 ⟨rfl,b6⟩;have hb6:=hb5.trans (b6.mono hb5.size))))|(go_at_call 13;((with_reducible refine (HS.out _ (by first|exact hb6|exact hb5)).mono ?_);first|(rintro e w7 ⟨rfl,b7⟩;have hb7:=hb6.trans (b7.mono hb6.size))|(rintro e w6 ⟨rfl,b6⟩;have hb6:=hb5.trans (b6.mono hb5.size)))))
  all_goals go_wp2_with fail
  all_goals go_ret
  all_goals exact ⟨rfl,hb7⟩
end Go.Proofs.YtlgipkemoldckaaGreatDoor
namespace Go.Proofs.YtlgipkemoldckaaGreatDoor
open Go.ChangeShapes Go.WideShapes Go.ChangeAt Go.RowKit
def YY : List (String × DataW Unit) := [("math/bits.deBruijn32tab", Rows.laid_math_bits_deBruijn32tab), ("math/bits.deBruijn64tab", Rows.laid_math_bits_deBruijn64tab), ("internal/strconv.uint64pow10", Rows.laid_internal_strconv_uint64pow10)]
theorem Qs : (YY.filter fun x => x.1 == "internal/strconv.uint64pow10") = [("internal/strconv.uint64pow10", Lib.tabData .u64 Lib.pow10Tab)] := by kernel_rfl
theorem VS (W:World):laidMetH Tryz.prog YY W=laidMet Tryz.prog YY W:=by
 first|exact laidMetH_plain _ _ _ (by kernel_rfl)|exact Go.laidMetH_plain _ _ _ (by kernel_rfl)|exact MakeChecks.laidMetH_plain _ _ _ (by kernel_rfl)|rfl
theorem Vl {W:World} (h:laidMetH Tryz.prog YY W):Yo W:=by
 rw[VS] at h
 have := h.filter (fun x => x.1 == "internal/strconv.uint64pow10")
 rw[Qs] at this
 exact Lib.tabIs_of_head (g:=1) (by kernel_rfl) (t:=238) (by kernel_rfl) Tryz.underlying238 (by kernel_rfl) (by kernel_rfl) (by kernel_rfl) this
theorem Tryz.laidOut:laidOutB Tryz.prog=true:=by kernel_rfl
noncomputable def XO (os:Os):World:=(World.holding Tryz.prog os ⟨#[],#[],[]⟩).layVars Tryz.prog YY
theorem Uu (os:Os):(XO os).os=os:=World.layVars_os _ _ _
theorem VY (os:Os) (args:Array Value):laidMetH Tryz.prog YY ((XO os).forCall (fun _ _=>0) ⟨#[],args,[]⟩).memory:=by
 rw[VS]
 have e1:(YY.filter fun x=>(YY.map (·.1)).contains x.1)=YY:=List.filter_eq_self.2 fun x hx=>List.contains_iff_mem.2 (List.mem_map.2 ⟨x,hx,rfl⟩)
 have e2:(YY.filter fun x=>!(YY.map (·.1)).contains x.1)=[]:=List.filter_eq_nil_iff.2 fun x hx=>by rw[List.contains_iff_mem.2 (List.mem_map.2 ⟨x,hx,rfl⟩)];simp
 have h:laidMet Tryz.prog YY (XO os):=laidMet_layVars (w0:=World.holding Tryz.prog os ⟨#[],#[],[]⟩) (YY.map (·.1)) [] (by rw[e1];rfl) (by rw[e1];kernel_rfl) (by rw[e1];kernel_rfl) (by rw[e2];exact LaidIn.none)
 exact h.of_heap (by simp[World.memory,World.forCall,Input.heap])
end Go.Proofs.YtlgipkemoldckaaGreatDoor
namespace Go.Proofs.YtlgipkemoldckaaGreatDoor
open Go.ChangeShapes Go.WideShapes Go.RowKit Go.Deep
section
variable {H:Type} {enc:TypeId × Value→H} {P:Program} {w:World} {base:Nat} {spare:Nat→Bool} {held:Bool}
end
section
variable {H:Type} {enc:TypeId × Value→H} {w:World} {base:Nat} {spare:Nat→Bool} {held:Bool}
end
theorem Uz {H:Type} {d:DataW H} {l:List (DataW H)} (h:d∈l):Rows.uptoBulk d≤Rows.uptoBulkAll l:=by
 induction l with
 | nil=>cases h
 | cons x r ih =>
  simp only[Rows.uptoBulkAll]
  rcases List.mem_cons.1 h with rfl|e
  ·omega
  ·have:=ih e
   omega
section
variable {H:Type} {enc:TypeId × Value→H} {P:Program} {w:World} {base:Nat} {spare:Nat→Bool} {held:Bool}
theorem XU {α:Type} {ea:α→List Value} {k:Nat} {t e:TypeId} {fuel:Nat} {cs:List Value} {x:DataW H × List MemPlace} {p:α→DataW H→Prop} (ht:P.underlying t=some (.slice e)) (hk:P.cellsOf e=k) (hk0:0<k) (hlen:∀ x,(ea x).length=k)
  (hel:∀ fuel cs y,Rows.uptoBulk y.1<Rows.uptoBulk x.1→DataW.trod enc P w base spare held fuel e cs=some y→∃ z,cs=ea z∧p z y.1) (h:DataW.trod enc P w base spare held fuel t cs=some x) :
  ∃ (v:Value) (l:List α) (ds:List (DataW H)),cs=[v]∧Z6 ea k w v l∧l.length=ds.length∧(∀ (i:Nat) (z:α) (dd:DataW H),l[i]?=some z→ds[i]?=some dd→p z dd)∧Rows.uptoBulkAll ds+1≤Rows.uptoBulk x.1:=by
 rcases open_slice ht h with ⟨hcs,hx⟩|⟨a,len0,cap0,m,n,D,Pl,hcs,hb,hl,hm,hmm,hx,hi⟩
 ·refine ⟨_,[],[],hcs,⟨none,0,rfl,Nat.le_refl _,Nat.zero_le _,fun hn=>absurd rfl hn⟩,rfl,fun i z dd h=>by simp at h,?_⟩
  rw[hx]
  simp[Rows.uptoBulk,Rows.uptoBulkAll]
 ·have hlm:len0≤m:=by rw[hmm];split <;> omega
  have hwt:Rows.uptoBulkAll ((List.range len0).map D)+1≤Rows.uptoBulk x.1:=by
   rw[hx]
   simp only[Rows.uptoBulk]
   omega
  obtain ⟨l,h1,h2⟩:=Xq (p:=fun i (x:α)=>(∀ j u,(ea x)[j]?=some u→w.cell? (a.add (i*k+j))=some u)∧p x (D i)) len0 (fun i hi'=>by
   obtain ⟨cs',hc,ht'⟩:=hi i (by omega)
   have hw1:=Uz (d:=D i) (l:=(List.range len0).map D) (List.mem_map.2 ⟨i,List.mem_range.2 hi',rfl⟩)
   obtain ⟨y,rfl,hp⟩:=hel _ _ _ (by show Rows.uptoBulk (D i)<_;omega) ht'
   refine ⟨y,fun j u hj=>?_,hp⟩
   obtain ⟨_,hcl,hat⟩:=World.cells?_some hc
   have hjl:=(List.getElem?_eq_some_iff.1 hj).1
   rw[hlen] at hjl
   have:=hat j (by rw[hk];exact hjl)
   rw[hk,Go.Deep.add_add,hj] at this
   exact this)
  subst h1
  refine ⟨_,l,(List.range l.length).map D,hcs,⟨some a,cap0,rfl,hl,hm,fun hne=>?_⟩,by simp,fun i z dd hz hdd=>?_,hwt⟩
  ·obtain ⟨x0,hx0⟩:∃ x0,l[0]?=some x0:=by
    cases l with
    | nil=>exact absurd rfl hne
    | cons x r=>exact ⟨x,rfl⟩
   obtain ⟨u0,hu0⟩:∃ u0,(ea x0)[0]?=some u0:=by
    have:=hlen x0
    cases hq:ea x0 with
    | nil=>rw[hq] at this;simp at this;omega
    | cons x r=>exact ⟨x,rfl⟩
   have hz:=(h2 0 x0 hx0).1 0 u0 hu0
   obtain ⟨b,off,spot⟩:=a
   have hspot:spot=none:=by
    simp[Addr.add,World.cell?] at hz
    cases spot with
    | none=>rfl
    | some s=>simp at hz;split at hz <;> simp at hz
   subst hspot
   refine ⟨b,off,rfl,fun i x hi' j u hj=>?_⟩
   have:=(h2 i x hi').1 j u hj
   have e:(Addr.add ⟨b,off,none⟩ (i*k+j))=⟨b,off+i*k+j,none⟩:=by
    unfold Addr.add
    split
    ·rename_i h0;have:i*k=0∧j=0:=by omega
     simp[this.1,this.2]
    ·simp[Nat.add_assoc]
   rw[e] at this
   exact this
  ·have hil:=(List.getElem?_eq_some_iff.1 hz).1
   rw[List.getElem?_map,List.getElem?_range hil] at hdd
   cases hdd
   exact (h2 i z hz).2
end
theorem XY {α H:Type} (g:α→List UInt8) (c:Nat):∀ {l:List α} {ds:List (DataW H)},l.length=ds.length→(∀ (i:Nat) (z:α) (dd:DataW H),l[i]?=some z→ds[i]?=some dd→(g z).length≤c*Rows.uptoBulk dd)→(l.flatMap g).length≤c*Rows.uptoBulkAll ds
 | [],[],_,_=>by simp
 | [],_ :: _,h,_=>by simp at h
 | _ :: _,[],h,_=>by simp at h
 | z :: l,d :: ds,h,hp=>by
  have h1:=hp 0 z d rfl rfl
  have h2:=XY g c (l:=l) (ds:=ds) (by simpa using h) (fun i z dd hz hd=>hp (i+1) z dd (by simpa using hz) (by simpa using hd))
  rw[List.flatMap_cons,List.length_append]
  simp only[Rows.uptoBulkAll,Nat.mul_add]
  omega
theorem Uw (s:List UInt8):(Za s).length≤2*s.length+2:=by
 have:=Sa s
 unfold Za
 simp only[List.length_cons,List.length_append,List.length_nil]
 omega
theorem T6 {y:Atr} {b:Nat} (h:y.name.size+y.value.size+2≤b):(Zm y).length≤2*b∧(Zl y).length≤2*b:=by
 have h1:=Uw y.value.toList
 have h2:=ZB y.value
 have h3:=ZB y.name
 constructor
 ·unfold Zm
  simp only[List.length_cons,List.length_append]
  omega
 ·unfold Zl
  simp only[List.length_cons,List.length_append,List.length_nil]
  omega
section
variable {H:Type} {enc:TypeId × Value→H} {w:World} {base:Nat} {spare:Nat→Bool} {held:Bool}
theorem Q6 {fuel:Nat} {cs:List Value} {x:DataW H × List MemPlace} (h:DataW.trod enc Tryz.prog w base spare held fuel 73 cs=some x):∃ y:Atr,cs=y.cells∧y.name.size+y.value.size+2≤Rows.uptoBulk x.1:=by
 obtain ⟨xs,n,_,hx,hlen,hxl,hf⟩:=DataW.trod_struct Tryz.underlying73 h
 have hc:Tryz.prog.cellsOf 73=2:=by kernel_rfl
 have hc2:Tryz.prog.cellsOf 9=1:=by kernel_rfl
 rw[hc] at hlen
 match cs,hlen with
 | [a,b],_ =>
  have f0:DataW.trod enc Tryz.prog w base spare held n 9 [a]=xs[0]?:=by simpa [hc2] using hf 0 _ rfl
  have f1:DataW.trod enc Tryz.prog w base spare held n 9 [b]=xs[1]?:=by simpa [hc2] using hf 1 _ rfl
  simp at hxl
  match xs,hxl with
  | [x0,x1],_ =>
   obtain ⟨p,hp,hp2,_⟩:=DataW.trod_string Tryz.underlying9 (f0.trans rfl)
   obtain ⟨q,hq,hq2,_⟩:=DataW.trod_string Tryz.underlying9 (f1.trans rfl)
   simp at hp hq
   refine ⟨⟨p,q⟩,by simp[Atr.cells,hp,hq],?_⟩
   rw[hx]
   have h1:p.data.toList.length=p.size:=by rw[Array.length_toList];rfl
   have h2:q.data.toList.length=q.size:=by rw[Array.length_toList];rfl
   simp only[List.map_cons,List.map_nil,Rows.uptoBulk,Rows.uptoBulkAll,hp2,hq2]
   omega
theorem UF {fuel:Nat} {cs:List Value} {x:DataW H × List MemPlace} (h:DataW.trod enc Tryz.prog w base spare held fuel 24 cs=some x):∃ (s:Sl) (l:List Atr),cs=[.slice s.a s.n s.cap]∧Z6 Atr.cells 2 w (.slice s.a s.n s.cap) l∧(l.flatMap Zm).length≤2*Rows.uptoBulk x.1∧(l.flatMap Zl).length≤2*Rows.uptoBulk x.1:=by
 obtain ⟨v,l,ds,h1,h2,h3,h4,h5⟩:=XU (ea:=Atr.cells) (k:=2) (p:=fun y d=>y.name.size+y.value.size+2≤Rows.uptoBulk d) Tryz.underlying24 (by kernel_rfl) (by omega) (fun _=>rfl) (fun _ _ _ _ h=>Q6 h) h
 have b1:=XY Zm 2 h3 (fun i z dd hz hd=>(T6 (h4 i z dd hz hd)).1)
 have b2:=XY Zl 2 h3 (fun i z dd hz hd=>(T6 (h4 i z dd hz hd)).2)
 obtain ⟨a,c,rfl,h6⟩:=id h2
 exact ⟨⟨a,l.length,c⟩,l,h1,h2,by omega,by omega⟩
theorem QC {fuel:Nat} {cs:List Value} {x:DataW H × List MemPlace} (h:DataW.trod enc Tryz.prog w base spare held fuel 75 cs=some x):∃ (y:Pc) (al:List Atr),cs=y.cells∧Z6 Atr.cells 2 w (.slice y.s.a y.s.n y.s.cap) al∧(pcL (y.t,al)).length≤4*Rows.uptoBulk x.1:=by
 obtain ⟨xs,n,_,hx,hlen,hxl,hf⟩:=DataW.trod_struct Tryz.underlying75 h
 have hc:Tryz.prog.cellsOf 75=2:=by kernel_rfl
 have hc2:Tryz.prog.cellsOf 9=1:=by kernel_rfl
 have hc3:Tryz.prog.cellsOf 24=1:=by kernel_rfl
 rw[hc] at hlen
 match cs,hlen with
 | [a,b],_ =>
  have f0:DataW.trod enc Tryz.prog w base spare held n 9 [a]=xs[0]?:=by simpa [hc2] using hf 0 _ rfl
  have f1:DataW.trod enc Tryz.prog w base spare held n 24 [b]=xs[1]?:=by simpa [hc3] using hf 1 _ rfl
  simp at hxl
  match xs,hxl with
  | [x0,x1],_ =>
   obtain ⟨p,hp,hp2,_⟩:=DataW.trod_string Tryz.underlying9 (f0.trans rfl)
   obtain ⟨s,al,hq,hs,_,hq2⟩:=UF (f1.trans rfl)
   simp at hp hq
   refine ⟨⟨p,s⟩,al,by simp[Pc.cells,hp,hq],hs,?_⟩
   rw[hx]
   have h1:p.data.toList.length=p.size:=by rw[Array.length_toList];rfl
   have h2:=Uw p.toList
   have h3:=ZB p
   have h4:Rows.uptoBulk x0.1=p.size+1:=by rw[hp2];simp only[Rows.uptoBulk];omega
   simp only[List.map_cons,List.map_nil,Rows.uptoBulk,Rows.uptoBulkAll]
   unfold pcL
   simp only[List.length_cons,List.length_append]
   omega
end
theorem We {α:Type} {ea:α→List Value} {k:Nat} {w:World} {v:Value} {l:List α} (h:Z6 ea k w v l) (hk:∀ x,0<(ea x).length):Zf (fun b=>b<w.heap.size) ea k w v l:=by
 refine ⟨h,fun b o n c e hl=>?_⟩
 obtain ⟨a,cap,e2,_,_,h4⟩:=h
 obtain ⟨b2,o2,e3,h6⟩:=h4 hl
 rw[e] at e2
 injection e2 with e2
 rw[e3] at e2
 injection e2 with e2
 injection e2 with e2
 subst e2
 obtain ⟨x,hx⟩:∃ x,l[0]?=some x:=by
  cases l with
  | nil=>exact absurd rfl hl
  | cons x r=>exact ⟨x,rfl⟩
 obtain ⟨u,hu⟩:∃ u,(ea x)[0]?=some u:=⟨_,List.getElem?_eq_getElem (hk x)⟩
 exact Zy (h6 0 x hx 0 u hu)
theorem QN (s:St):(idL s).length≤50:=by
 unfold idL
 split
 ·simp
 ·unfold stL
  split
  ·simp
  ·rename_i h1 h2
   by_cases h0:s=⟨0,0⟩
   ·exact absurd h0 h1
   ·have hr:Ze s=true:=by
     cases h:Ze s with
     | true=>rfl
     | false=>exact absurd ⟨h0,h⟩ h2
    simp only[Ze,decide_eq_true_eq] at hr
    have a1:=Lib.itoa_length_le s.n (by omega) (by omega)
    have a2:=Lib.itoa_length_le s.r (by omega) (by omega)
    simp only[List.length_cons,List.length_append]
    omega
def TxB (B d:Nat):Nat:=B*(2*d+2*B+60)
theorem T8 {H:Type} {M d:Nat}:∀ {l:List Nd} {ds:List (DataW H)},l.length=ds.length→(∀ (i:Nat) (z:Nd) (dd:DataW H),l[i]?=some z→ds[i]?=some dd→(txN d z).length≤Rows.uptoBulk dd*M)→(txK d l).length≤Rows.uptoBulkAll ds*M
 | [],[],_,_=>by simp[txK]
 | [],_ :: _,h,_=>by simp at h
 | _ :: _,[],h,_=>by simp at h
 | z :: l,e :: ds,h,hp=>by
  have h1:=hp 0 z e rfl rfl
  have h2:=T8 (l:=l) (ds:=ds) (by simpa using h) (fun i z dd hz hd=>hp (i+1) z dd (by simpa using hz) (by simpa using hd))
  rw[txK,List.length_append]
  simp only[Rows.uptoBulkAll,Nat.add_mul]
  omega
theorem QU {B S bk ba bt d k i a t:Nat} (hB:S+bk+ba+bt+3≤B) (hk:k≤bk) (hi:i≤50) (ha:a≤2*ba) (ht:t≤4*bt):2*d+(k+(i+(a+t))+(S*(2*(d+1)+2*(B - 1)+60)+1))≤TxB B d:=by
 unfold TxB
 obtain ⟨R,rfl⟩:∃ R,B=S+R:=⟨B - S,by omega⟩
 have e1:2*(d+1)+2*(S+R - 1)+60=2*d+2*(S+R)+60:=by omega
 rw[e1,Nat.add_mul]
 have h1:R*60+1*(2*d)≤R*(2*d+2*(S+R)+60):=by
  have:R*(2*d+2*(S+R)+60)=R*(2*d)+R*(2*(S+R))+R*60:=by rw[Nat.mul_add,Nat.mul_add]
  have h2:1*(2*d)≤R*(2*d):=Nat.mul_le_mul_right _ (by omega)
  omega
 omega
section
variable {H:Type} {enc:TypeId × Value→H} {w:World} {base:Nat} {spare:Nat→Bool} {held:Bool}
theorem RZ {fuel:Nat} {cs:List Value} {x:DataW H × List MemPlace} (h:DataW.trod enc Tryz.prog w base spare held fuel 25 cs=some x):∃ (s:Sl) (P:Pcs),cs=[.slice s.a s.n s.cap]∧ZN (fun b=>b<w.heap.size) w (.slice s.a s.n s.cap) P∧(P.flatMap pcL).length≤4*Rows.uptoBulk x.1:=by
 obtain ⟨v,l,ds,h1,h2,h3,h4,h5⟩:=XU (ea:=Pc.cells) (k:=2) (p:=fun y d=>∃ al,Z6 Atr.cells 2 w (.slice y.s.a y.s.n y.s.cap) al∧(pcL (y.t,al)).length≤4*Rows.uptoBulk d) Tryz.underlying25 (by kernel_rfl) (by omega) (fun _=>rfl) (fun _ _ _ _ h=>by obtain ⟨y,al,e1,e2,e3⟩:=QC h;exact ⟨y,e1,al,e2,e3⟩) h
 obtain ⟨P,p1,p2⟩:=Xq (p:=fun i (q:ByteArray × List Atr)=>∀ y,l[i]?=some y→q.1=y.t∧Z6 Atr.cells 2 w (.slice y.s.a y.s.n y.s.cap) q.2∧∀ dd,ds[i]?=some dd→(pcL q).length≤4*Rows.uptoBulk dd) l.length (fun i hi=>by
  obtain ⟨y,hy⟩:∃ y,l[i]?=some y:=⟨_,List.getElem?_eq_getElem hi⟩
  obtain ⟨dd,hdd⟩:∃ y,ds[i]?=some y:=⟨_,List.getElem?_eq_getElem (by omega)⟩
  obtain ⟨al,g1,g2⟩:=h4 i y dd hy hdd
  refine ⟨(y.t,al),fun y' hy'=>?_⟩
  rw[hy] at hy'
  cases hy'
  exact ⟨rfl,g1,fun dd' hd'=>by rw[hdd] at hd';cases hd';exact g2⟩)
 have b1:=XY pcL 4 (l:=P) (ds:=ds) (by omega) (fun i z dd hz hd=>by
  have hil:=(List.getElem?_eq_some_iff.1 hz).1
  obtain ⟨y,hy⟩:∃ y,l[i]?=some y:=⟨_,List.getElem?_eq_getElem (by omega)⟩
  exact (p2 i z hz y hy).2.2 dd hd)
 obtain ⟨a,c,rfl,h6⟩:=id h2
 refine ⟨⟨a,l.length,c⟩,P,h1,⟨l,We h2 (fun _=>Nat.zero_lt_succ 1),by omega,fun j y hy=>?_⟩,by omega⟩
 have hjl:=(List.getElem?_eq_some_iff.1 hy).1
 obtain ⟨z,hz⟩:∃ z,P[j]?=some z:=⟨_,List.getElem?_eq_getElem (by omega)⟩
 obtain ⟨e1,e2,_⟩:=p2 j z hz y hy
 obtain ⟨z1,z2⟩:=z
 simp only at e1 e2
 subst e1
 exact ⟨z2,hz,We e2 (fun _=>Nat.zero_lt_succ 1)⟩
end
section
variable {H:Type} {enc:TypeId × Value→H} {w:World} {base:Nat} {spare:Nat→Bool} {held:Bool}
theorem Q8 {H:Type} (d:DataW H):1≤Rows.uptoBulk d:=by
 cases d with
 | lit l=>cases l <;> simp[Rows.uptoBulk]
 | nil=>simp[Rows.uptoBulk]
 | ptr d=>simp[Rows.uptoBulk]
 | slice elems spare=>simp[Rows.uptoBulk]
 | agg parts=>simp[Rows.uptoBulk]
 | iface t d=>simp[Rows.uptoBulk]
 | map entries=>simp[Rows.uptoBulk]
 | held h=>simp[Rows.uptoBulk]
def QA (w:World) (B:Nat) (y:NdV):Prop:=∃ n:Nd,Zh (fun b=>b<w.heap.size) w y n∧∀ d,(txN d n).length≤TxB B d
theorem RI (N:Nat):∀ (fuel:Nat) (cs:List Value) (x:DataW H × List MemPlace),Rows.uptoBulk x.1<N→DataW.trod enc Tryz.prog w base spare held fuel 28 cs=some x→∃ y:NdV,cs=y.cells∧QA w (Rows.uptoBulk x.1) y:=by
 induction N with
 | zero=>intro _ _ _ h;omega
 | succ N ih =>
  intro fuel cs x hN h
  obtain ⟨xs,n,_,hx,hlen,hxl,hf⟩:=DataW.trod_struct Tryz.underlying28 h
  have hc:Tryz.prog.cellsOf 28=6:=by kernel_rfl
  have hc1:Tryz.prog.cellsOf 23=2:=by kernel_rfl
  have hc2:Tryz.prog.cellsOf 9=1:=by kernel_rfl
  have hc3:Tryz.prog.cellsOf 24=1:=by kernel_rfl
  have hc4:Tryz.prog.cellsOf 25=1:=by kernel_rfl
  have hc5:Tryz.prog.cellsOf 26=1:=by kernel_rfl
  rw[hc] at hlen
  match cs,hlen with
  | [a,b,c,d,e,f],_ =>
   have f0:DataW.trod enc Tryz.prog w base spare held n 23 [a,b]=xs[0]?:=by simpa [hc1] using hf 0 _ rfl
   have f1:DataW.trod enc Tryz.prog w base spare held n 9 [c]=xs[1]?:=by simpa [hc2] using hf 1 _ rfl
   have f2:DataW.trod enc Tryz.prog w base spare held n 24 [d]=xs[2]?:=by simpa [hc3] using hf 2 _ rfl
   have f3:DataW.trod enc Tryz.prog w base spare held n 25 [e]=xs[3]?:=by simpa [hc4] using hf 3 _ rfl
   have f4:DataW.trod enc Tryz.prog w base spare held n 26 [f]=xs[4]?:=by simpa [hc5] using hf 4 _ rfl
   simp at hxl
   match xs,hxl with
   | [y0,y1,y2,y3,y4],_ =>
    have hb:Rows.uptoBulk x.1=1+(Rows.uptoBulk y0.1+(Rows.uptoBulk y1.1+(Rows.uptoBulk y2.1+(Rows.uptoBulk y3.1+(Rows.uptoBulk y4.1+0))))):=by
     rw[hx]
     simp only[List.map_cons,List.map_nil,Rows.uptoBulk,Rows.uptoBulkAll]
     try omega
    obtain ⟨id,hid⟩:=Sh (f0.trans rfl)
    obtain ⟨k,hk,hk2,_⟩:=DataW.trod_string Tryz.underlying9 (f1.trans rfl)
    obtain ⟨sa,az,h2,h2a,h2b,_⟩:=UF (f2.trans rfl)
    obtain ⟨st,P,h3,h3a,h3b⟩:=RZ (f3.trans rfl)
    obtain ⟨v,vs,ds,h4,h4a,h4b,h4c,h4d⟩:=XU (ea:=NdV.cells) (k:=6) (p:=fun y d=>QA w (Rows.uptoBulk d) y) Tryz.underlying26 (by kernel_rfl) (by omega) (fun _=>rfl) (fun fuel cs y hy h=>ih fuel cs y (by omega) h) (f4.trans rfl)
    obtain ⟨ks,p1,p2⟩:=Xq (p:=fun i (m:Nd)=>∀ y,vs[i]?=some y→Zh (fun b=>b<w.heap.size) w y m∧∀ dd,ds[i]?=some dd→∀ d,(txN d m).length≤TxB (Rows.uptoBulk dd) d) vs.length (fun i hi=>by
     obtain ⟨y,hy⟩:∃ y,vs[i]?=some y:=⟨_,List.getElem?_eq_getElem hi⟩
     obtain ⟨dd,hdd⟩:∃ y,ds[i]?=some y:=⟨_,List.getElem?_eq_getElem (by omega)⟩
     obtain ⟨m,g1,g2⟩:=h4c i y dd hy hdd
     refine ⟨m,fun y' hy'=>?_⟩
     rw[hy] at hy'
     cases hy'
     exact ⟨g1,fun dd' hd'=>by rw[hdd] at hd';cases hd';exact g2⟩)
    have h4a2:=h4a
    obtain ⟨va,vc,rfl,h6⟩:=h4a2
    simp at hid hk h2 h3 h4
    refine ⟨⟨id,k,sa,st,⟨va,vs.length,vc⟩⟩,by simp[NdV.cells,hid,hk,h2,h3,h4],.mk id k az P ks,Zh.mk ⟨id,k,sa,st,⟨va,vs.length,vc⟩⟩ az P vs ks (We h2a (fun _=>Nat.zero_lt_succ 1)) h3a (We h4a (fun _=>Nat.zero_lt_succ 5)) (by omega) (fun i y m hy hm=>(p2 i m hm y hy).1),fun d=>?_⟩
    have hkb:k.toList.length≤Rows.uptoBulk y1.1:=by
     rw[hk2,ZB]
     have:k.data.toList.length=k.size:=by rw[Array.length_toList];rfl
     simp only[Rows.uptoBulk]
     omega
    have h0:=Q8 y0.1
    have hT:=T8 (M:=2*(d+1)+2*(Rows.uptoBulk x.1 - 1)+60) (d:=d+1) (l:=ks) (ds:=ds) (by omega) (fun i z dd hz hd=>by
     have hil:=(List.getElem?_eq_some_iff.1 hz).1
     obtain ⟨y,hy⟩:∃ y,vs[i]?=some y:=⟨_,List.getElem?_eq_getElem (by omega)⟩
     have b1:=(p2 i z hz y hy).2 dd hd (d+1)
     have b2:=Uz (List.mem_of_getElem? hd)
     refine Nat.le_trans b1 ?_
     unfold TxB
     exact Nat.mul_le_mul_left _ (by omega))
    have hS:=QU (B:=Rows.uptoBulk x.1) (S:=Rows.uptoBulkAll ds) (bk:=Rows.uptoBulk y1.1) (ba:=Rows.uptoBulk y2.1) (bt:=Rows.uptoBulk y3.1) (d:=d) (by omega) hkb (QN id) h2b h3b
    rw[txN]
    unfold ZP
    simp only[List.length_append,List.length_cons,List.length_replicate]
    omega
end
theorem Ra {B:Nat} (h:B≤1048576):TxB B 0≤35184372088832:=by
 unfold TxB
 obtain ⟨M,hM⟩:∃ M:Nat,M=1048576:=⟨_,rfl⟩
 have h1:B*(2*0+2*B+60)≤M*(2*0+2*M+60):=Nat.mul_le_mul (by omega) (by omega)
 have h2:M*(2*0+2*M+60)=2199086170112:=by rw[hM]
 omega
theorem WW {H:Type} {enc:TypeId × Value→H} {w:World} {base:Nat} {spare:Nat→Bool} {held:Bool} {r:Reach} {b0:Nat} {v:Value} {d:DataW H} {p:List MemPlace} (hv:Value.okWide Tryz.prog w r b0 28 v)
  (h:DataW.Trod enc Tryz.prog w base spare held 28 v d p) (hb:Rows.uptoBulk d≤1048576):∃ (x:NdV) (n:Nd),v=x.val∧Zh (fun b=>b<w.heap.size) w x n∧(txN 0 n).length≤35184372088832:=by
 obtain ⟨cs,rfl,_⟩:=okWide_struct Tryz.underlying28 hv
 obtain ⟨fuel,hf⟩:=h
 have hcs:(Value.agg cs).cells.toList=cs.toList:=rfl
 rw[hcs] at hf
 obtain ⟨y,hy,n,h1,h2⟩:=RI _ fuel cs.toList (d,p) (Nat.lt_succ_self _) hf
 refine ⟨y,n,?_,h1,Nat.le_trans (h2 0) (Ra hb)⟩
 obtain ⟨cs⟩:=cs
 have hy':cs=y.cells:=hy
 rw[hy']
 rfl
end Go.Proofs.YtlgipkemoldckaaGreatDoor
namespace Go.Proofs.YtlgipkemoldckaaGreatDoor
open Go Go.ChangeShapes Go.WideShapes Go.ChangeAt Go.RowKit
theorem V7 (os:Os) {H:Type} (enc:TypeId × Value→H):∃ places,DataW.whole enc Tryz.prog ((XO os).forCall (fun _ _=>0) ⟨#[],#[.agg #[.int .i64 0,.int .i64 0,.string ⟨#[]⟩,.slice none 0 0,.slice none 0 0,.slice none 0 0]],[]⟩).memory Tryz.f3.params.toList Rows.viewRendersSpec.vars false (#[.agg #[.int .i64 0,.int .i64 0,.string ⟨#[]⟩,.slice none 0 0,.slice none 0 0,.slice none 0 0]]:Array Value).toList 8=some ([.agg [.agg [.lit (.int .i64 0),.lit (.int .i64 0)],.lit (.string []),.nil,.nil,.nil]],[],places) :=
 ⟨[],by kernel_rfl⟩
theorem WU (os:Os) (started:os.Started) (H:Type) (enc:TypeId × Value→H) (F:Stop.Interp) :
  ReturnsInHanded {} Tryz.checked os 3 .any ((Rows.OpenSpec.upto Rows.viewRendersSpec).preRow enc Tryz.prog Tryz.f3 Rows.viewRendersUptoRow.domain false Rows.viewRendersUptoRow.laid) (((Rows.OpenSpec.upto Rows.viewRendersSpec).at F).post enc Tryz.prog Tryz.f3 false true false false):=by
 obtain ⟨places,hx⟩:=V7 os enc
 refine returnsInHanded_of_row (C:=Tryz.checked) (s:=(Rows.OpenSpec.upto Rows.viewRendersSpec)) Tryz.own started (by kernel_rfl) Tryz.func3
  (witness_row_at (enc:=enc) (C:=Tryz.checked) false (XO os) #[.agg #[.int .i64 0,.int .i64 0,.string ⟨#[]⟩,.slice none 0 0,.slice none 0 0,.slice none 0 0]] (Uu os) (by kernel_rfl) (by kernel_rfl) (by kernel_rfl)
   (OpenSpec.preRow_of_cond 8 hx (by kernel_rfl) (fun k hk=>by cases hk;kernel_rfl) (by kernel_rfl) (VY os _))) ?_
 intro W base args ds gs before hval0 hW _ hk _ hL _ _
 have hbk:=hk _ rfl
 have hval:∀ (j:Nat) t v,Tryz.f3.params[j]?=some t→args[j]?=some v→Value.okWide Tryz.prog W .any base t v:=hval0
 have hW':=hW
 obtain ⟨p,q,hA0,hV,rfl,hfz,hnd⟩:=hW
 have hA:DataW.TrodAll enc Tryz.prog W 0 (fun _=>true) true Tryz.f3.params.toList args.toList ds p:=hA0
 rw[Tryz.params3] at hA hval
 obtain ⟨v0,vs0,d0,ds0,p0,q0,hargs,rfl,rfl,h0,r0⟩:=trodAll_cons hA
 obtain ⟨rfl,rfl,rfl⟩:=trodAll_nil r0
 obtain rfl:args=#[v0]:=by cases args;simp_all
 obtain ⟨rfl,rfl⟩:=trodVars_none hV
 have hbulk:Rows.uptoBulk d0≤1048576:=by
  have:=of_decide_eq_true hbk
  simpa [Rows.uptoBulkAll,Nat.add_assoc] using this
 have k0:=h0
 have lt0:∀ x∈p0,x.block<W.heap.size:=by obtain ⟨m,hm⟩:=k0;exact DataW.trod_lt m _ _ _ hm
 obtain ⟨x0,n0,rfl,g0,b0⟩:=WW (hval 0 28 v0 rfl rfl) h0 (by omega)
 clear hA0 hval0
 refine (TA n0 x0 W g0 (Vl hL) b0).mono fun e W' ⟨he,bel⟩=>?_
 subst he
 exact ⟨_,rfl,_,_,_,[],_,[],hW',trodAll_mk1 (shut_bool Tryz.underlying4 _),(trodAll_cons_mk (Below.trod Tryz.laidOut (by kernel_rfl) (of_decide_eq_true (by kernel_rfl)) k0 bel lt0) trodAll_mk0),rfl,bel.frame _,fun h=>by cases h⟩
theorem U7:(Rows.viewRendersUptoRow.inPlace == Tryz.prog.inPlace 3)=true:=by kernel_rfl
theorem Ul:(Rows.viewRendersUptoRow.unfollowed == Tryz.prog.unfollowed 3)=true:=by kernel_rfl
theorem U9:(Rows.viewRendersUptoRow.recurses == Tryz.prog.recurses 3)=true:=by kernel_rfl
theorem Uk:(Rows.viewRendersUptoRow.named == Tryz.prog.varsNamed 3)=true:=by kernel_rfl
theorem Vt:joinedFacts Tryz.prog 3 Tryz.f3 (Rows.OpenSpec.upto Rows.viewRendersSpec).bare Rows.viewRendersUptoRow=true:=by
 unfold joinedFacts
 rw[U7,Ul,U9,Uk]
 kernel_rfl
theorem Vm:Rows.ViewRendersUptoSaid :=
 OpenClaim.holds_of_cond 3 Tryz.f3 rfl rfl rfl rfl rfl rfl rfl ⟨rfl,rfl,rfl,rfl,rfl⟩ rfl rfl rfl rfl rfl (by kernel_rfl) Tryz.func3 Vt
  (of_decide_eq_true (by kernel_rfl)) (by unfold Func.isWrapper;first|(rw[if_pos (by decide +kernel)];kernel_rfl)|(rw[if_neg (by decide +kernel)];exact ⟨rfl,rfl⟩))
  (fun os started H enc _ F=>by rw[OpenClaim.pre_eq_preRow];exact WU os started H enc F)
theorem viewRendersUpto_card:Rows.ViewRendersUptoCardSaid :=
 Claim7.holds_tied_plain_at .later [] _ _ _ _
  Vm (fun _ h=>by cases h) (by kernel_rfl) (fun _ h=>by cases h) viewRendersUpto_row_tie rfl ⟨rfl,rfl⟩ (by kernel_rfl) rfl
  (fun f fn hf hfn=>by
   obtain rfl : f = 3 := Option.some.inj ((show Tryz.prog.funcNamed "stemma/stemmalaw20.ViewRenders" = some 3 by kernel_rfl).symm.trans hf) |>.symm
   obtain rfl:fn=Tryz.f3:=(Option.some.inj (Tryz.func3.symm.trans hfn)).symm
   exact ⟨by kernel_rfl,fun j t ht=>by
    rw[Tryz.params3] at ht
    have hm:t∈[28]:=by simpa using Array.mem_of_getElem? ht
    have hall:([28].all fun u=>!Tryz.prog.wantsStandIn u)=true:=by kernel_rfl
    exact (show Tryz.prog.wantsStandIn t=false by simpa using List.all_eq_true.1 hall t hm)⟩)
  (by kernel_rfl)
#print axioms viewRendersUpto_card
end Go.Proofs.YtlgipkemoldckaaGreatDoor
namespace Go.Proofs.YtlgipkemoldckaaGreatDoor
open Go.RowKit Go.Deep
instance (b:ByteArray):Decidable (Zu b):=by unfold Zu;infer_instance
theorem Wy (s:ByteArray) (w:World) (hs:s.size≤35184372088832) :
  Calls Tryz.prog 31 #[.string s] w fun e w'=>e=.returned (.bool (decide (Zu s)))∧w'=w:=by
 have htl:s.toList=s.data.toList:=ByteArray.toList_eq s
 have hsz:s.data.toList.length=s.size:=by rw[Array.length_toList];rfl
 have hsm:s.size≤s.size:=Nat.le_refl _
 clear hsm
 go_enter Tryz.func31,Tryz.ntmps31
 go_wp2_with fail
 go_loopg [3] s.size (fun n iv wr=>∃ (k:Nat),n=s.size - k∧k≤s.size∧iv=.int .i64 k∧wr=w∧Hid (∀ c∈s.data.toList.take k,X3 c=true))
 case atStart=>exact ⟨0,rfl,by omega,rfl,rfl,Jh (by simp)⟩
 case round =>
  obtain ⟨k,hn,hkl,rfl,rfl,HL⟩:=hrel
  have HN:=Lib.hid hn
  clear hn
  by_cases hk:k<s.size
  ·obtain ⟨c,hc⟩:∃ c,s.data.toList[k]?=some c:=⟨_,List.getElem?_eq_getElem (by omega)⟩
   have hkk:(k:Int)<(s.size:Int):=by omega
   have hsk:s[k]=c:=by
    have:=(List.getElem?_eq_some_iff.1 hc).2
    rw[Array.getElem_toList] at this
    exact this
   have hst:((s[k]).toNat:Int)=(c.toNat:Int):=by rw[hsk]
   obtain ⟨cn,hcn⟩:∃ cn:Int,(c.toNat:Int)=cn:=⟨_,rfl⟩
   rw[hcn] at hst
   have HC:=Jh (And.intro hc hcn)
   clear hsk hcn hc
   by_cases h1:cn<97
   ·have HF:Hid (decide (Zu s)=false):=Jh (by
     rw[decide_eq_false_iff_not]
     rintro ⟨_,hw⟩
     have:=hw c (by rw[htl];exact List.mem_of_getElem? HC.out.1)
     simp only[X3,decide_eq_true_eq] at this
     have:=HC.out.2
     omega)
    go_wp2_with fail
    go_ret
    exact ⟨by rw[HF.out];rfl,rfl⟩
   ·by_cases h2:cn > 122
    ·have HF:Hid (decide (Zu s)=false):=Jh (by
      rw[decide_eq_false_iff_not]
      rintro ⟨_,hw⟩
      have:=hw c (by rw[htl];exact List.mem_of_getElem? HC.out.1)
      simp only[X3,decide_eq_true_eq] at this
      have:=HC.out.2
      omega)
     go_wp2_with fail
     go_ret
     exact ⟨by rw[HF.out];rfl,rfl⟩
    ·have HL2:Hid (∀ c∈s.data.toList.take (k+1),X3 c=true):=Jh (by
      rw[List.take_add_one,HC.out.1]
      intro x hx
      rw[Option.toList_some,List.mem_append,List.mem_singleton] at hx
      rcases hx with hx|rfl
      ·exact HL.out x hx
      ·simp only[X3,decide_eq_true_eq]
       have:=HC.out.2
       omega)
     go_wp2_with fail
     go_roundg (s.size - (k+1))
     case measure=>rw[HN.out];omega
     case rel=>exact ⟨k+1,rfl,by omega,by go_num,rfl,HL2⟩
  ·have hkk:¬ ((k:Int)<(s.size:Int)):=by omega
   have HA:Hid (∀ c∈s.toList,X3 c=true):=Jh (by have:=HL.out;rw[List.take_of_length_le (by omega)] at this;rw[htl];exact this)
   have HF:Hid (decide (Zu s)=decide (0<s.size)):=Jh (by
    rw[decide_eq_decide]
    constructor
    ·rintro ⟨hw,_⟩
     rw[htl] at hw
     have:=List.length_pos_iff.2 hw
     omega
    ·intro h
     exact ⟨fun e=>by rw[htl] at e;rw[e] at hsz;simp at hsz;omega,HA.out⟩)
   go_wp2_with fail
   go_ret
   exact ⟨by rw[HF.out];rfl,rfl⟩
def QX (n:Nd):Prop:=∀ (d:Nat) (D:Nat→Prop) (x:NdV) (w:World),Zh D w x n→(txN d n).length≤35184372088832 →
 Calls Tryz.prog 14 #[x.val] w fun e w'=>∃ b:Bool,e=.returned (.bool b)∧(b=true↔ZO n)∧Below w.heap.size w w'
theorem Vn {α:Type} {P:Prop} {q:α→Prop} {l:List α} {k:Nat} {x:α} {b c:Bool} (hx:l[k]?=some x) (hb:b=true↔P∧∀ z∈l.take k,q z) (hc:c=true↔q x):(b && c)=true↔P∧∀ z∈l.take (k+1),q z:=by
 rw[Bool.and_eq_true,hb,hc,List.take_add_one,hx,Option.toList_some]
 constructor
 ·rintro ⟨⟨h1,h2⟩,h3⟩
  refine ⟨h1,fun z hz=>?_⟩
  rw[List.mem_append,List.mem_singleton] at hz
  rcases hz with hz|rfl
  ·exact h2 z hz
  ·exact h3
 ·rintro ⟨h1,h2⟩
  exact ⟨⟨h1,fun z hz=>h2 z (List.mem_append_left _ hz)⟩,h2 x (by simp)⟩
theorem Qh {α:Type} {P:Prop} {q:α→Prop} {l:List α} {k:Nat} {x:α} (hx:l[k]?=some x):((P∧∀ z∈l.take k,q z)∧q x)↔P∧∀ z∈l.take (k+1),q z:=by
 rw[List.take_add_one,hx,Option.toList_some]
 constructor
 ·rintro ⟨⟨h1,h2⟩,h3⟩
  refine ⟨h1,fun z hz=>?_⟩
  rw[List.mem_append,List.mem_singleton] at hz
  rcases hz with hz|rfl
  ·exact h2 z hz
  ·exact h3
 ·rintro ⟨h1,h2⟩
  exact ⟨⟨h1,fun z hz=>h2 z (List.mem_append_left _ hz)⟩,h2 x (by simp)⟩
theorem SV (d:Nat) (D:Nat→Prop) (xn xr:Int) (xk:ByteArray) (aa ta sa:Option Addr) (an ac tn tc sn sc:Nat) (az:List Atr) (t:Pcs) (vs:List NdV) (ks:List Nd) (w:World)
  (ha:Zf D Atr.cells 2 w (.slice aa an ac) az) (hp:ZN D w (.slice ta tn tc) t) (hs:Zf D NdV.cells 6 w (.slice sa sn sc) vs) (hn:Zc D w vs ks)
  (hbig:(ZP ⟨xn,xr⟩ xk az t).length+(txK (d+1) ks).length≤35184372088832) (ih:∀ n∈ks,QX n) :
  Calls Tryz.prog 14 #[.agg #[.int .i64 xn,.int .i64 xr,.string xk,.slice aa an ac,.slice ta tn tc,.slice sa sn sc]] w fun e w'=>∃ b:Bool,e=.returned (.bool b)∧(b=true↔ZO (.mk ⟨xn,xr⟩ xk az t ks))∧Below w.heap.size w w':=by
 have hsn:sn=vs.length∧vs.length≤9223372036854775807:=by
  obtain ⟨⟨a,c,e,h1,h2,_⟩,_⟩:=hs
  injection e with _ e2 _
  unfold maxLen at h2
  exact ⟨e2,Nat.le_trans h1 h2⟩
 have hxn:an=az.length∧az.length≤9223372036854775807:=by
  obtain ⟨⟨a,c,e,h1,h2,_⟩,_⟩:=ha
  injection e with _ e2 _
  unfold maxLen at h2
  exact ⟨e2,Nat.le_trans h1 h2⟩
 obtain ⟨at9,ct9,et9,hct,hmt⟩:=hp.shape
 have hxt:tn=t.length:=by injection et9
 have htm:t.length≤maxLen:=Nat.le_trans hct hmt
 unfold maxLen at htm
 have hsnn:sn≤9223372036854775807:=by omega
 have hann:an≤9223372036854775807:=by omega
 have htnn:tn≤9223372036854775807:=by omega
 have HNN:=Jh (And.intro hxn (And.intro hxt hsn))
 clear et9 hct hmt hxn hxt htm hsn
 have hB0:Below w.heap.size w (w.alloc (.cells #[.int .i64 xn,.int .i64 xr,.string xk,.slice aa an ac,.slice ta tn tc,.slice sa sn sc] 28)):=(Below.refl _ _).alloc (Nat.le_refl _) _
 have hz1:(w.alloc (.cells #[.int .i64 xn,.int .i64 xr,.string xk,.slice aa an ac,.slice ta tn tc,.slice sa sn sc] 28)).heap.size=w.heap.size+1:=by simp
 have x0:(w.alloc (.cells #[.int .i64 xn,.int .i64 xr,.string xk,.slice aa an ac,.slice ta tn tc,.slice sa sn sc] 28)).cell? ⟨w.heap.size,0,none⟩=some (.int .i64 xn):=by go_simp
 have x1:(w.alloc (.cells #[.int .i64 xn,.int .i64 xr,.string xk,.slice aa an ac,.slice ta tn tc,.slice sa sn sc] 28)).cell? ⟨w.heap.size,1,none⟩=some (.int .i64 xr):=by go_simp
 have x2:(w.alloc (.cells #[.int .i64 xn,.int .i64 xr,.string xk,.slice aa an ac,.slice ta tn tc,.slice sa sn sc] 28)).cell? ⟨w.heap.size,2,none⟩=some (.string xk):=by go_simp
 have x3:(w.alloc (.cells #[.int .i64 xn,.int .i64 xr,.string xk,.slice aa an ac,.slice ta tn tc,.slice sa sn sc] 28)).cell? ⟨w.heap.size,3,none⟩=some (.slice aa an ac):=by go_simp
 have x4:(w.alloc (.cells #[.int .i64 xn,.int .i64 xr,.string xk,.slice aa an ac,.slice ta tn tc,.slice sa sn sc] 28)).cell? ⟨w.heap.size,4,none⟩=some (.slice ta tn tc):=by go_simp
 have x5:(w.alloc (.cells #[.int .i64 xn,.int .i64 xr,.string xk,.slice aa an ac,.slice ta tn tc,.slice sa sn sc] 28)).cell? ⟨w.heap.size,5,none⟩=some (.slice sa sn sc):=by go_simp
 have HZ1:=Lib.hid hz1
 have HB0:=Lib.hid hB0
 have HI:=Jh (And.intro ha (And.intro hp (And.intro hs hn)))
 have hln:(ZP ⟨xn,xr⟩ xk az t).length=xk.toList.length+((idL ⟨xn,xr⟩).length+((az.flatMap Zm).length+(t.flatMap pcL).length)):=by unfold ZP;simp only[List.length_append]
 have HBIG:=Jh (And.intro hbig hln)
 have HIH:=Lib.hid ih
 have hkz:xk.size≤35184372088832:=by have:=ZB xk;omega
 have HKZ:=Lib.hid hkz
 clear hz1 hB0 ha hp hs hn hbig hln ih hkz
 go_enter Tryz.func14,Tryz.ntmps14
 go_upto_region 1 with fail
 generalize (w.alloc (.cells #[.int .i64 xn,.int .i64 xr,.string xk,.slice aa an ac,.slice ta tn tc,.slice sa sn sc] 28))=w1 at *
 have HL1:=Jh (Wy xk w1 HKZ.out)
 obtain ⟨b0,hb0⟩:=Je (decide (Zu xk))
 rw[hb0] at HL1
 have HB00:=Lib.hid hb0
 clear hb0
 go_wp2_with fail
 refine HL1.out.mono ?_
 rintro e w2 ⟨rfl,rfl⟩
 have HR1:=Jh (VO xn xr w2)
 obtain ⟨b1,hb1⟩:=Je (Ze ⟨xn,xr⟩)
 rw[hb1] at HR1
 have HB11:=Lib.hid hb1
 clear hb1
 go_wp2_with fail
 refine HR1.out.mono ?_
 rintro e w3 ⟨rfl,b3⟩
 replace x0:=Z0 b3 x0
 replace x1:=Z0 b3 x1
 have HB3:=Lib.hid b3
 clear HR1 HL1 b3
 go_upto_region 3 with fail
 go_cut [3] from 17 to 26 (fun v wx=>∃ b:Bool,v=.bool b∧wx=w3∧Hid (b=true↔Zu xk∧U2 ⟨xn,xr⟩))
 case first=>as_aux_lemma =>
  have hfin:∀ b:Bool,(b=true↔b0=true∧(b1=true∨(⟨xn,xr⟩:St)=⟨0,0⟩))→(b=true↔Zu xk∧U2 ⟨xn,xr⟩):=fun b hb=>by
   rw[hb,←HB00.out,←HB11.out,decide_eq_true_eq]
   rfl
  have HFIN:=Lib.hid hfin
  clear hfin
  cases b0 with
  | false =>
   go_wp2_with fail
   go_meet
   exact ⟨false,rfl,rfl,Jh (HFIN.out false (by simp))⟩
  | true =>
   cases b1 with
   | true =>
    go_wp2_with fail
    go_meet
    exact ⟨true,rfl,rfl,Jh (HFIN.out true (by simp))⟩
   | false =>
    by_cases e1:xn=0
    ·by_cases e2:xr=0
     ·subst e1
      subst e2
      go_wp2_with fail
      go_meet
      exact ⟨true,rfl,rfl,Jh (HFIN.out true (by simp))⟩
     ·subst e1
      go_wp2_with fail
      go_meet
      exact ⟨false,rfl,rfl,Jh (HFIN.out false (by simp[e2]))⟩
    ·go_wp2_with fail
     go_meet
     exact ⟨false,rfl,rfl,Jh (HFIN.out false (by simp[e1]))⟩
 case rest =>
  obtain ⟨bq,rfl,hw,HQ⟩:=hcut
  subst hw
  clear HKZ HB00 HB11
  obtain ⟨P0,hP0⟩:∃ P0:Prop,(Zu xk∧U2 ⟨xn,xr⟩)=P0:=⟨_,rfl⟩
  rw[hP0] at HQ
  have HP0:=Lib.hid hP0
  clear hP0 x0 x1
  go_wp2_with fail
  go_loopg [3,5] an (fun g bv iv wr=>∃ (k:Nat) (b:Bool),g=an - k∧k≤an∧iv=.int .i64 k∧bv=.bool b∧Hid (b=true↔P0∧∀ z∈az.take k,Zu z.name)∧Hid (Below w2.heap.size w2 wr))
  case atStart=>exact ⟨0,bq,by omega,by omega,rfl,rfl,Jh (by rw[HQ.out];simp),HB3⟩
  case round =>
   obtain ⟨k,b,hg,hk,rfl,rfl,HT,HB⟩:=hrel
   have HG:=Lib.hid hg
   clear hg
   have HBW:Hid (Below w.heap.size w wr):=Jh (HB0.out.trans (HB.out.mono (by have:=HZ1.out;omega)))
   have y3:=YT HB.out (by have:=HZ1.out;omega) x3
   by_cases hkl:k<an
   ·obtain ⟨⟨nm,vl⟩,hx⟩:∃ x,az[k]?=some x:=⟨_,List.getElem?_eq_getElem (by have:=HNN.out.1;omega)⟩
    obtain ⟨q,o,rfl,u0,u1⟩:=(HI.out.1.below HBW.out (fun _=>Nat.zero_lt_succ 1)).atr2 hx
    have hkk:(k:Int)<(an:Int):=by omega
    have hft:=Y2 az Zm (k+1)
    rw[ZK Zm hx,List.length_append] at hft
    have hal:nm.toList.length≤(Zm ⟨nm,vl⟩).length:=by simp only[Zm,List.length_cons,List.length_append];omega
    have hns:nm.size≤35184372088832:=by have h1:=HBIG.out.1;have h2:=HBIG.out.2;have:=ZB nm;omega
    have HL:=Jh (Wy nm wr hns)
    obtain ⟨c,hc⟩:=Je (decide (Zu nm))
    rw[hc] at HL
    have HN:Hid ((b && c)=true↔P0∧∀ z∈az.take (k+1),Zu z.name):=Jh (Vn hx HT.out (by rw[←hc,decide_eq_true_eq]))
    clear hx hft hal hns hc
    cases b with
    | false =>
     go_wp2_with fail
     refine HL.out.mono ?_
     rintro e w9 ⟨rfl,rfl⟩
     go_wp2_with fail
     go_roundg (an - (k+1))
     case measure=>rw[HG.out];omega
     case rel=>exact ⟨k+1,false,rfl,hkl,by go_num,rfl,HN,HB⟩
    | true =>
     go_wp2_with fail
     refine HL.out.mono ?_
     rintro e w9 ⟨rfl,rfl⟩
     go_wp2_with fail
     go_roundg (an - (k+1))
     case measure=>rw[HG.out];omega
     case rel=>exact ⟨k+1,c,rfl,hkl,by go_num,rfl,HN,HB⟩
   ·have hkk:¬ ((k:Int)<(an:Int)):=by omega
    have HT1:Hid (b=true↔P0∧∀ z∈az,Zu z.name):=Jh (by have:=HT.out;rwa [List.take_of_length_le (by have:=HNN.out.1;omega)] at this)
    obtain ⟨P1,hP1⟩:∃ P1:Prop,(P0∧∀ z∈az,Zu z.name)=P1:=⟨_,rfl⟩
    rw[hP1] at HT1
    have HP1:=Lib.hid hP1
    clear hP1 HT HQ HB3 HG
    go_wp2_with fail
    clear y3 HBW
    obtain ⟨wa,hwa⟩:∃ wa,wa=wr:=⟨_,rfl⟩
    subst hwa
    have HBA:=HB
    clear HB
    go_loopg [3,7] tn (fun g bv iv wr=>∃ (k:Nat) (b:Bool),g=tn - k∧k≤tn∧iv=.int .i64 k∧bv=.bool b∧Hid (b=true↔P1∧∀ p∈t.take k,∀ z∈p.2,Zu z.name)∧Hid (Below w2.heap.size w2 wr))
    case atStart=>exact ⟨0,b,by omega,by omega,rfl,rfl,Jh (by rw[HT1.out];simp),HBA⟩
    case round =>
     obtain ⟨k1,b1,hg,hk1,rfl,rfl,HT,HB⟩:=hrel
     have HG:=Lib.hid hg
     clear hg
     have HBW:Hid (Below w.heap.size w wr):=Jh (HB0.out.trans (HB.out.mono (by have:=HZ1.out;omega)))
     have y4:=YT HB.out (by have:=HZ1.out;omega) x4
     by_cases hkl1:k1<tn
     ·obtain ⟨⟨tx,al⟩,hx⟩:∃ x,t[k1]?=some x:=⟨_,List.getElem?_eq_getElem (by have:=HNN.out.2.1;omega)⟩
      obtain ⟨q,o,c5,ms,e5,-,-,u0,u1,hsl⟩:=HI.out.2.1.at hx
      injection e5 with e5 e6 e7
      clear e6 e7
      subst e5
      obtain ⟨ma,mn,mc⟩:=ms
      replace u1:=Z0 HBW.out u1
      have hmn:mn=al.length∧al.length≤9223372036854775807:=by
       obtain ⟨a,c,e,h1,h2,_⟩:=hsl
       injection e with _ e2 _
       unfold maxLen at h2
       exact ⟨e2,Nat.le_trans h1 h2⟩
      have HSL:=Lib.hid hsl
      have hmnn:mn≤9223372036854775807:=by omega
      have HMN:=Lib.hid hmn
      have hkk2:(k1:Int)<(tn:Int):=by omega
      have hft:=Y2 t pcL (k1+1)
      rw[ZK pcL hx,List.length_append] at hft
      have hpl:(al.flatMap Zl).length≤(pcL (tx,al)).length:=by unfold pcL;simp only[List.length_cons,List.length_append];omega
      have hml:(al.flatMap Zl).length≤35184372088832:=by have h1:=HBIG.out.1;have h2:=HBIG.out.2;omega
      have HML:=Lib.hid hml
      have HNX:=Jh (Qh (P:=P1) (q:=fun p:ByteArray × List Atr=>∀ z∈p.2,Zu z.name) hx)
      obtain ⟨Pk,hPk⟩:∃ Pk:Prop,(P1∧∀ p∈t.take k1,∀ z∈p.2,Zu z.name)=Pk:=⟨_,rfl⟩
      rw[hPk] at HNX HT
      clear hx hft hpl hml hsl hmn hPk u0
      obtain ⟨wo,hwo⟩:∃ wo,wo=wr:=⟨_,rfl⟩
      subst hwo
      have HB5:=HB
      clear HB
      go_wp2_with fail
      go_loopg [3,8] mn (fun g bv iv wr=>∃ (j:Nat) (b:Bool),g=mn - j∧j≤mn∧iv=.int .i64 j∧bv=.bool b∧Hid (b=true↔Pk∧∀ z∈al.take j,Zu z.name)∧Hid (Below w2.heap.size w2 wr)∧Hid (Below wo.heap.size wo wr))
      case atStart=>exact ⟨0,b1,by omega,by omega,rfl,rfl,Jh (by rw[HT.out];simp),HB5,Jh (Below.refl _ _)⟩
      case round =>
       obtain ⟨j,b2,hg2,hj,rfl,rfl,HU,HBr,HBo⟩:=hrel
       have HG2:=Lib.hid hg2
       clear hg2
       have z4:=Z0 HBo.out y4
       have v1:=Z0 HBo.out u1
       have HBW2:Hid (Below w.heap.size w wr):=Jh (HB0.out.trans (HBr.out.mono (by have:=HZ1.out;omega)))
       clear y4 u1
       by_cases hjl:j<mn
       ·obtain ⟨⟨nm,vl⟩,hx⟩:∃ x,al[j]?=some x:=⟨_,List.getElem?_eq_getElem (by have:=HMN.out.1;omega)⟩
        obtain ⟨q2,o2,rfl,u0,u1⟩:=(show Zf (fun _=>True) Atr.cells 2 wr (.slice ma mn mc) al from ⟨HSL.out.below HBW2.out,fun _ _ _ _ _ _=>trivial⟩).atr2 hx
        have hjj:(j:Int)<(mn:Int):=by omega
        have hft:=Y2 al Zl (j+1)
        rw[ZK Zl hx,List.length_append] at hft
        have hal:nm.toList.length≤(Zl ⟨nm,vl⟩).length:=by simp only[Zl,List.length_cons,List.length_append];omega
        have hns:nm.size≤35184372088832:=by have h1:=HML.out;have:=ZB nm;omega
        have HL:=Jh (Wy nm wr hns)
        obtain ⟨c,hc⟩:=Je (decide (Zu nm))
        rw[hc] at HL
        have HN:Hid ((b2 && c)=true↔Pk∧∀ z∈al.take (j+1),Zu z.name):=Jh (Vn hx HU.out (by rw[←hc,decide_eq_true_eq]))
        clear hx hft hal hns hc
        cases b2 with
        | false =>
         go_wp2_with fail
         refine HL.out.mono ?_
         rintro e w9 ⟨rfl,rfl⟩
         go_wp2_with fail
         go_roundg (mn - (j+1))
         case measure=>rw[HG2.out];omega
         case rel=>exact ⟨j+1,false,rfl,hjl,by go_num,rfl,HN,HBr,HBo⟩
        | true =>
         go_wp2_with fail
         refine HL.out.mono ?_
         rintro e w9 ⟨rfl,rfl⟩
         go_wp2_with fail
         go_roundg (mn - (j+1))
         case measure=>rw[HG2.out];omega
         case rel=>exact ⟨j+1,c,rfl,hjl,by go_num,rfl,HN,HBr,HBo⟩
       ·have hjj:¬ ((j:Int)<(mn:Int)):=by omega
        have HN:Hid (b2=true↔P1∧∀ p∈t.take (k1+1),∀ z∈p.2,Zu z.name):=Jh (by have:=HU.out;rw[List.take_of_length_le (by have:=HMN.out.1;omega)] at this;exact this.trans HNX.out)
        go_wp2_with fail
        go_roundg (tn - (k1+1))
        case measure=>rw[HG.out];omega
        case rel=>exact ⟨k1+1,b2,rfl,hkl1,by go_num,rfl,HN,HBr⟩
     ·have hkk2:¬ ((k1:Int)<(tn:Int)):=by omega
      have HT2:Hid (b1=true↔P1∧∀ p∈t,∀ z∈p.2,Zu z.name):=Jh (by have:=HT.out;rwa [List.take_of_length_le (by have:=HNN.out.2.1;omega)] at this)
      obtain ⟨P2,hP2⟩:∃ P2:Prop,(P1∧∀ p∈t,∀ z∈p.2,Zu z.name)=P2:=⟨_,rfl⟩
      rw[hP2] at HT2
      have HGD:Hid (ZO (.mk ⟨xn,xr⟩ xk az t ks)↔P2∧∀ n∈ks,ZO n):=Jh (by
       rw[←hP2,←HP1.out,←HP0.out]
       constructor
       ·rintro ⟨_,_,_,_,_,h1,h2,h3,h4,h5⟩
        exact ⟨⟨⟨⟨h2,h1⟩,h3⟩,h4⟩,h5⟩
       ·rintro ⟨⟨⟨⟨h2,h1⟩,h3⟩,h4⟩,h5⟩
        exact .mk _ _ _ _ _ h1 h2 h3 h4 h5)
      clear hP2 HT HG HT1
      go_wp2_with fail
      clear y4 HBW
      obtain ⟨wb,hwb⟩:∃ wb,wb=wr:=⟨_,rfl⟩
      subst hwb
      have HBC:=HB
      clear HB
      go_loopg [3,10] sn (fun g bv iv wr=>∃ (k:Nat) (b:Bool),g=sn - k∧k≤sn∧iv=.int .i64 k∧bv=.bool b∧Hid (b=true↔P2∧∀ n∈ks.take k,ZO n)∧Hid (Below w2.heap.size w2 wr))
      case atStart=>exact ⟨0,b1,by omega,by omega,rfl,rfl,Jh (by rw[HT2.out];simp),HBC⟩
      case round =>
       obtain ⟨k2,b2,hg,hk2,rfl,rfl,HT,HB⟩:=hrel
       have HG:=Lib.hid hg
       clear hg
       have HBW:Hid (Below w.heap.size w wr):=Jh (HB0.out.trans (HB.out.mono (by have:=HZ1.out;omega)))
       have y5:=YT HB.out (by have:=HZ1.out;omega) x5
       by_cases hkl2:k2<sn
       ·have hkk3:(k2:Int)<(sn:Int):=by omega
        cases b2 with
        | false =>
         have HF:Hid (false=true↔ZO (.mk ⟨xn,xr⟩ xk az t ks)):=Jh (by
          rw[HGD.out]
          exact ⟨(fun h=>by cases h),(fun h=>HT.out.2 ⟨h.1,fun n hn=>h.2 n (List.mem_of_mem_take hn)⟩)⟩)
         go_wp2_with fail
         go_ret
         exact ⟨false,rfl,HF.out,HBW.out⟩
        | true =>
         obtain ⟨⟨⟨zn,zr⟩,zk,⟨a1,a2,a3⟩,⟨b1',b2',b3'⟩,⟨c1,c2,c3⟩⟩,hx⟩:∃ x,vs[k2]?=some x:=⟨_,List.getElem?_eq_getElem (by have:=HNN.out.2.2;omega)⟩
         obtain ⟨m,hm⟩:∃ x,ks[k2]?=some x:=⟨_,List.getElem?_eq_getElem (by have:=HNN.out.2.2;have:=HI.out.2.2.2.1;omega)⟩
         obtain ⟨q,o,cp,e5,u0,u1,u2,u3,u4,u5⟩:=(HI.out.2.2.1.below HBW.out (fun _=>Nat.zero_lt_succ 5)).node6 hx
         injection e5 with e5 e6 e7
         clear e6 e7
         subst e5
         simp only at u0 u1 u2 u3 u4 u5
         have hle:=Tr (d+1) ks (k2+1)
         rw[XT hm,List.length_append] at hle
         have HC:=Jh (HIH.out m (List.mem_of_getElem? hm) (d+1) D ⟨⟨zn,zr⟩,zk,⟨a1,a2,a3⟩,⟨b1',b2',b3'⟩,⟨c1,c2,c3⟩⟩ wr ((HI.out.2.2.2.2 k2 _ m hx hm).belowW HBW.out) (by have:=HBIG.out.1;omega))
         have HNX:Hid (∀ c:Bool,(c=true↔ZO m)→(c=true↔P2∧∀ n∈ks.take (k2+1),ZO n)):=Jh (fun c hc=>by
          have:=Vn hm HT.out hc
          rwa [Bool.true_and] at this)
         simp only[NdV.val] at HC
         clear hx hm hle
         go_wp2_with fail
         refine HC.out.mono ?_
         rintro e w10 ⟨c,rfl,hc,b10⟩
         have HN:=Jh (HNX.out c hc)
         clear hc
         go_wp2_with fail
         go_roundg (sn - (k2+1))
         case measure=>rw[HG.out];omega
         case rel=>exact ⟨k2+1,c,rfl,hkl2,by go_num,rfl,HN,Jh (HB.out.trans (b10.mono HB.out.size))⟩
       ·have hkk3:¬ ((k2:Int)<(sn:Int)):=by omega
        have HF:Hid (b2=true↔ZO (.mk ⟨xn,xr⟩ xk az t ks)):=Jh (by
         rw[HGD.out,HT.out,List.take_of_length_le (by have:=HNN.out.2.2;have:=HI.out.2.2.2.1;omega)])
        cases b2 with
        | false =>
         go_wp2_with fail
         go_ret
         first|exact ⟨false,rfl,HF.out,HBW.out⟩|exact .inl ⟨rfl,(fun h=>absurd (HF.out.2 h) (by simp)),HBW.out⟩
        | true =>
         go_wp2_with fail
         go_ret
         first|exact ⟨true,rfl,HF.out,HBW.out⟩|exact .inr ⟨rfl,HF.out.1 (by trivial),HBW.out⟩
theorem UK (n:Nd):QX n:=by
 induction n using Nd.ind with
 | _ i k az t ks ih =>
  intro d D x w hn hbig
  obtain ⟨e1,e2,ha,hp,vs,hs,hk⟩:=hn.parts
  obtain ⟨⟨xn,xr⟩,xk,⟨aa,an,ac⟩,⟨ta,tn,tc⟩,⟨sa,sn,sc⟩⟩:=x
  simp only[Nd.id,Nd.kind,Nd.attrs,Nd.text,Nd.kids] at e1 e2 ha hp hk
  subst e1 e2
  rw[txN] at hbig
  simp only[List.length_append,List.length_cons] at hbig
  exact SV d D xn xr xk aa ta sa an ac tn tc sn sc az t vs ks w ha hp hs hk (by omega) ih
theorem Sn (a b:ByteArray):(a.toList == b.toList)=(a == b):=by
 rw[YM]
 by_cases h:a=b
 ·subst h;simp
 ·rw[decide_eq_false h]
  simpa using fun e=>h ((ZT a b).1 e)
theorem QE {n m:Nd} (h1:ZO n) (h2:ZO m):((⟨(txN 0 n).toArray⟩:ByteArray) == ⟨(txN 0 m).toArray⟩)=true↔n=m:=by
 rw[YM,decide_eq_true_iff,←Qo h1 h2]
 refine ⟨fun h=>?_,fun h=>by rw[h]⟩
 have:=congrArg (fun b:ByteArray=>b.data.toList) h
 simpa using this
theorem R9 (n m:Nd) (x y:NdV) (w:World) (hn:Zh (fun b=>b<w.heap.size) w x n) (hm:Zh (fun b=>b<w.heap.size) w y m) (ht:Yo w) (hbig:(txN 0 n).length≤35184372088832) (hbig2:(txN 0 m).length≤35184372088832) :
  Calls Tryz.prog 4 #[x.val,y.val] w fun e w'=>e=.returned (.bool true)∧Below w.heap.size w w':=by
 obtain ⟨⟨xn,xr⟩,xk,⟨xaa,xan,xac⟩,⟨xta,xtn,xtc⟩,⟨xsa,xsn,xsc⟩⟩:=x
 obtain ⟨⟨yn,yr⟩,yk,⟨yaa,yan,yac⟩,⟨yta,ytn,ytc⟩,⟨ysa,ysn,ysc⟩⟩:=y
 have hB0:Below w.heap.size w ((w.alloc (.cells #[.int .i64 xn,.int .i64 xr,.string xk,.slice xaa xan xac,.slice xta xtn xtc,.slice xsa xsn xsc] 28)).alloc (.cells #[.int .i64 yn,.int .i64 yr,.string yk,.slice yaa yan yac,.slice yta ytn ytc,.slice ysa ysn ysc] 28)):=((Below.refl _ _).alloc (Nat.le_refl _) _).alloc (by simp) _
 have x0:((w.alloc (.cells #[.int .i64 xn,.int .i64 xr,.string xk,.slice xaa xan xac,.slice xta xtn xtc,.slice xsa xsn xsc] 28)).alloc (.cells #[.int .i64 yn,.int .i64 yr,.string yk,.slice yaa yan yac,.slice yta ytn ytc,.slice ysa ysn ysc] 28)).cell? ⟨w.heap.size,0,none⟩=some (.int .i64 xn):=by go_simp
 have x1:((w.alloc (.cells #[.int .i64 xn,.int .i64 xr,.string xk,.slice xaa xan xac,.slice xta xtn xtc,.slice xsa xsn xsc] 28)).alloc (.cells #[.int .i64 yn,.int .i64 yr,.string yk,.slice yaa yan yac,.slice yta ytn ytc,.slice ysa ysn ysc] 28)).cell? ⟨w.heap.size,1,none⟩=some (.int .i64 xr):=by go_simp
 have x2:((w.alloc (.cells #[.int .i64 xn,.int .i64 xr,.string xk,.slice xaa xan xac,.slice xta xtn xtc,.slice xsa xsn xsc] 28)).alloc (.cells #[.int .i64 yn,.int .i64 yr,.string yk,.slice yaa yan yac,.slice yta ytn ytc,.slice ysa ysn ysc] 28)).cell? ⟨w.heap.size,2,none⟩=some (.string xk):=by go_simp
 have x3:((w.alloc (.cells #[.int .i64 xn,.int .i64 xr,.string xk,.slice xaa xan xac,.slice xta xtn xtc,.slice xsa xsn xsc] 28)).alloc (.cells #[.int .i64 yn,.int .i64 yr,.string yk,.slice yaa yan yac,.slice yta ytn ytc,.slice ysa ysn ysc] 28)).cell? ⟨w.heap.size,3,none⟩=some (.slice xaa xan xac):=by go_simp
 have x4:((w.alloc (.cells #[.int .i64 xn,.int .i64 xr,.string xk,.slice xaa xan xac,.slice xta xtn xtc,.slice xsa xsn xsc] 28)).alloc (.cells #[.int .i64 yn,.int .i64 yr,.string yk,.slice yaa yan yac,.slice yta ytn ytc,.slice ysa ysn ysc] 28)).cell? ⟨w.heap.size,4,none⟩=some (.slice xta xtn xtc):=by go_simp
 have x5:((w.alloc (.cells #[.int .i64 xn,.int .i64 xr,.string xk,.slice xaa xan xac,.slice xta xtn xtc,.slice xsa xsn xsc] 28)).alloc (.cells #[.int .i64 yn,.int .i64 yr,.string yk,.slice yaa yan yac,.slice yta ytn ytc,.slice ysa ysn ysc] 28)).cell? ⟨w.heap.size,5,none⟩=some (.slice xsa xsn xsc):=by go_simp
 have y0:((w.alloc (.cells #[.int .i64 xn,.int .i64 xr,.string xk,.slice xaa xan xac,.slice xta xtn xtc,.slice xsa xsn xsc] 28)).alloc (.cells #[.int .i64 yn,.int .i64 yr,.string yk,.slice yaa yan yac,.slice yta ytn ytc,.slice ysa ysn ysc] 28)).cell? ⟨w.heap.size+1,0,none⟩=some (.int .i64 yn):=by go_simp
 have y1:((w.alloc (.cells #[.int .i64 xn,.int .i64 xr,.string xk,.slice xaa xan xac,.slice xta xtn xtc,.slice xsa xsn xsc] 28)).alloc (.cells #[.int .i64 yn,.int .i64 yr,.string yk,.slice yaa yan yac,.slice yta ytn ytc,.slice ysa ysn ysc] 28)).cell? ⟨w.heap.size+1,1,none⟩=some (.int .i64 yr):=by go_simp
 have y2:((w.alloc (.cells #[.int .i64 xn,.int .i64 xr,.string xk,.slice xaa xan xac,.slice xta xtn xtc,.slice xsa xsn xsc] 28)).alloc (.cells #[.int .i64 yn,.int .i64 yr,.string yk,.slice yaa yan yac,.slice yta ytn ytc,.slice ysa ysn ysc] 28)).cell? ⟨w.heap.size+1,2,none⟩=some (.string yk):=by go_simp
 have y3:((w.alloc (.cells #[.int .i64 xn,.int .i64 xr,.string xk,.slice xaa xan xac,.slice xta xtn xtc,.slice xsa xsn xsc] 28)).alloc (.cells #[.int .i64 yn,.int .i64 yr,.string yk,.slice yaa yan yac,.slice yta ytn ytc,.slice ysa ysn ysc] 28)).cell? ⟨w.heap.size+1,3,none⟩=some (.slice yaa yan yac):=by go_simp
 have y4:((w.alloc (.cells #[.int .i64 xn,.int .i64 xr,.string xk,.slice xaa xan xac,.slice xta xtn xtc,.slice xsa xsn xsc] 28)).alloc (.cells #[.int .i64 yn,.int .i64 yr,.string yk,.slice yaa yan yac,.slice yta ytn ytc,.slice ysa ysn ysc] 28)).cell? ⟨w.heap.size+1,4,none⟩=some (.slice yta ytn ytc):=by go_simp
 have y5:((w.alloc (.cells #[.int .i64 xn,.int .i64 xr,.string xk,.slice xaa xan xac,.slice xta xtn xtc,.slice xsa xsn xsc] 28)).alloc (.cells #[.int .i64 yn,.int .i64 yr,.string yk,.slice yaa yan yac,.slice yta ytn ytc,.slice ysa ysn ysc] 28)).cell? ⟨w.heap.size+1,5,none⟩=some (.slice ysa ysn ysc):=by go_simp
 have HA:Hid (∀ W,Below w.heap.size w W→Calls Tryz.prog 11 #[] W fun e w'=>e=.returned (.bool true)∧Below W.heap.size W w'):=Jh (fun W h=>UJ W (ht.below h))
 have HRX:Hid (∀ W,Below w.heap.size w W→Calls Tryz.prog 12 #[.agg #[.int .i64 xn,.int .i64 xr,.string xk,.slice xaa xan xac,.slice xta xtn xtc,.slice xsa xsn xsc]] W fun e w'=>e=.returned (.string ⟨(txN 0 n).toArray⟩)∧Below W.heap.size W w'):=Jh (fun W h=>XC n _ ⟨⟨xn,xr⟩,xk,⟨xaa,xan,xac⟩,⟨xta,xtn,xtc⟩,⟨xsa,xsn,xsc⟩⟩ W (hn.belowW h) (fun k hk=>by have:=h.size;omega) (ht.below h) hbig)
 have HCX:Hid (∀ W,Below w.heap.size w W→Calls Tryz.prog 10 #[.agg #[.int .i64 xn,.int .i64 xr,.string xk,.slice xaa xan xac,.slice xta xtn xtc,.slice xsa xsn xsc],.int .i64 300] W fun e w'=>∃ c:Nat,e=.returned (.int .i64 c)∧1≤c∧c≤301∧Below W.heap.size W w'):=Jh (fun W h=>Wl n 300 _ ⟨⟨xn,xr⟩,xk,⟨xaa,xan,xac⟩,⟨xta,xtn,xtc⟩,⟨xsa,xsn,xsc⟩⟩ W (hn.belowW h) (by omega))
 have HWX:Hid (∀ W,Below w.heap.size w W→Calls Tryz.prog 14 #[.agg #[.int .i64 xn,.int .i64 xr,.string xk,.slice xaa xan xac,.slice xta xtn xtc,.slice xsa xsn xsc]] W fun e w'=>∃ b:Bool,e=.returned (.bool b)∧(b=true↔ZO n)∧Below W.heap.size W w'):=Jh (fun W h=>UK n 0 _ ⟨⟨xn,xr⟩,xk,⟨xaa,xan,xac⟩,⟨xta,xtn,xtc⟩,⟨xsa,xsn,xsc⟩⟩ W (hn.belowW h) hbig)
 have HRY:Hid (∀ W,Below w.heap.size w W→Calls Tryz.prog 12 #[.agg #[.int .i64 yn,.int .i64 yr,.string yk,.slice yaa yan yac,.slice yta ytn ytc,.slice ysa ysn ysc]] W fun e w'=>e=.returned (.string ⟨(txN 0 m).toArray⟩)∧Below W.heap.size W w'):=Jh (fun W h=>XC m _ ⟨⟨yn,yr⟩,yk,⟨yaa,yan,yac⟩,⟨yta,ytn,ytc⟩,⟨ysa,ysn,ysc⟩⟩ W (hm.belowW h) (fun k hk=>by have:=h.size;omega) (ht.below h) hbig2)
 have HCY:Hid (∀ W,Below w.heap.size w W→Calls Tryz.prog 10 #[.agg #[.int .i64 yn,.int .i64 yr,.string yk,.slice yaa yan yac,.slice yta ytn ytc,.slice ysa ysn ysc],.int .i64 300] W fun e w'=>∃ c:Nat,e=.returned (.int .i64 c)∧1≤c∧c≤301∧Below W.heap.size W w'):=Jh (fun W h=>Wl m 300 _ ⟨⟨yn,yr⟩,yk,⟨yaa,yan,yac⟩,⟨yta,ytn,ytc⟩,⟨ysa,ysn,ysc⟩⟩ W (hm.belowW h) (by omega))
 have HWY:Hid (∀ W,Below w.heap.size w W→Calls Tryz.prog 14 #[.agg #[.int .i64 yn,.int .i64 yr,.string yk,.slice yaa yan yac,.slice yta ytn ytc,.slice ysa ysn ysc]] W fun e w'=>∃ b:Bool,e=.returned (.bool b)∧(b=true↔ZO m)∧Below W.heap.size W w'):=Jh (fun W h=>UK m 0 _ ⟨⟨yn,yr⟩,yk,⟨yaa,yan,yac⟩,⟨yta,ytn,ytc⟩,⟨ysa,ysn,ysc⟩⟩ W (hm.belowW h) hbig2)
 have HS:Hid (∀ (b:Bool) W,(b=true↔n=m)→Below w.heap.size w W→Calls Tryz.prog 15 #[.agg #[.int .i64 xn,.int .i64 xr,.string xk,.slice xaa xan xac,.slice xta xtn xtc,.slice xsa xsn xsc],.agg #[.int .i64 yn,.int .i64 yr,.string yk,.slice yaa yan yac,.slice yta ytn ytc,.slice ysa ysn ysc]] W fun e w'=>e=.returned (.bool b)∧Below W.heap.size W w'):=Jh (fun b W hb h=>Sm n m b _ _ ⟨⟨xn,xr⟩,xk,⟨xaa,xan,xac⟩,⟨xta,xtn,xtc⟩,⟨xsa,xsn,xsc⟩⟩ ⟨⟨yn,yr⟩,yk,⟨yaa,yan,yac⟩,⟨yta,ytn,ytc⟩,⟨ysa,ysn,ysc⟩⟩ W hb (hn.belowW h) (hm.belowW h))
 have HB0:=Lib.hid hB0
 have HQ:Hid (∃ q:Bool,((⟨(txN 0 n).toArray⟩:ByteArray) == ⟨(txN 0 m).toArray⟩)=q∧(ZO n→ZO m→(q=true↔n=m))):=Lib.hid ⟨_,rfl,fun h1 h2=>QE h1 h2⟩
 clear hB0 hn hm ht hbig hbig2
 unfold NdV.val
 generalize (⟨(txN 0 n).toArray⟩:ByteArray)=T1 at *
 generalize (⟨(txN 0 m).toArray⟩:ByteArray)=T2 at *
 obtain ⟨q,hq,hgood⟩:=HQ.out
 have HG:=Lib.hid hgood
 have HQE:=Lib.hid hq
 clear hgood hq HQ
 go_enter Tryz.func4,Tryz.ntmps4
 go_upto_region 1 with fail
 generalize ((w.alloc (.cells #[.int .i64 xn,.int .i64 xr,.string xk,.slice xaa xan xac,.slice xta xtn xtc,.slice xsa xsn xsc] 28)).alloc (.cells #[.int .i64 yn,.int .i64 yr,.string yk,.slice yaa yan yac,.slice yta ytn ytc,.slice ysa ysn ysc] 28))=w1 at *
 have x0:=x0
 go_wp2_with fail
 refine (HCX.out w1 HB0.out).mono ?_
 rintro e w2 ⟨c,rfl,hc1,hc2,bw2⟩
 have HBw2:=Jh (HB0.out.trans (bw2.mono HB0.out.size))
 replace x0:=Z0 bw2 x0
 replace x1:=Z0 bw2 x1
 replace x2:=Z0 bw2 x2
 replace x3:=Z0 bw2 x3
 replace x4:=Z0 bw2 x4
 replace x5:=Z0 bw2 x5
 replace y0:=Z0 bw2 y0
 replace y1:=Z0 bw2 y1
 replace y2:=Z0 bw2 y2
 replace y3:=Z0 bw2 y3
 replace y4:=Z0 bw2 y4
 replace y5:=Z0 bw2 y5
 clear bw2
 by_cases hcc:(c:Int) > 300
 ·go_wp2_with fail
  refine (HA.out w2 HBw2.out).mono ?_
  rintro e wz ⟨rfl,bz⟩
  go_wp2_with fail
  go_ret
  exact ⟨rfl,HBw2.out.trans (bz.mono HBw2.out.size)⟩
 ·go_wp2_with fail
  refine (HCY.out w2 HBw2.out).mono ?_
  rintro e w3 ⟨d,rfl,hd1,hd2,bw3⟩
  have HBw3:=Jh (HBw2.out.trans (bw3.mono HBw2.out.size))
  replace x0:=Z0 bw3 x0
  replace x1:=Z0 bw3 x1
  replace x2:=Z0 bw3 x2
  replace x3:=Z0 bw3 x3
  replace x4:=Z0 bw3 x4
  replace x5:=Z0 bw3 x5
  replace y0:=Z0 bw3 y0
  replace y1:=Z0 bw3 y1
  replace y2:=Z0 bw3 y2
  replace y3:=Z0 bw3 y3
  replace y4:=Z0 bw3 y4
  replace y5:=Z0 bw3 y5
  clear bw3
  by_cases hcd:(d:Int) > 300
  ·go_wp2_with fail
   refine (HA.out w3 HBw3.out).mono ?_
   rintro e wz ⟨rfl,bz⟩
   go_wp2_with fail
   go_ret
   exact ⟨rfl,HBw3.out.trans (bz.mono HBw3.out.size)⟩
  ·go_wp2_with fail
   refine (HWX.out w3 HBw3.out).mono ?_
   rintro e w4 ⟨p,rfl,hp,bw4⟩
   have HP:=Lib.hid hp
   clear hp
   have HBw4:=Jh (HBw3.out.trans (bw4.mono HBw3.out.size))
   replace x0:=Z0 bw4 x0
   replace x1:=Z0 bw4 x1
   replace x2:=Z0 bw4 x2
   replace x3:=Z0 bw4 x3
   replace x4:=Z0 bw4 x4
   replace x5:=Z0 bw4 x5
   replace y0:=Z0 bw4 y0
   replace y1:=Z0 bw4 y1
   replace y2:=Z0 bw4 y2
   replace y3:=Z0 bw4 y3
   replace y4:=Z0 bw4 y4
   replace y5:=Z0 bw4 y5
   clear bw4
   go_wp2_with fail
   refine (HWY.out w4 HBw4.out).mono ?_
   rintro e w5 ⟨r,rfl,hr,bw5⟩
   have HR:=Lib.hid hr
   clear hr
   have HBw5:=Jh (HBw4.out.trans (bw5.mono HBw4.out.size))
   replace x0:=Z0 bw5 x0
   replace x1:=Z0 bw5 x1
   replace x2:=Z0 bw5 x2
   replace x3:=Z0 bw5 x3
   replace x4:=Z0 bw5 x4
   replace x5:=Z0 bw5 x5
   replace y0:=Z0 bw5 y0
   replace y1:=Z0 bw5 y1
   replace y2:=Z0 bw5 y2
   replace y3:=Z0 bw5 y3
   replace y4:=Z0 bw5 y4
   replace y5:=Z0 bw5 y5
   clear bw5
   cases p
   ·go_wp2_with fail
    refine (HA.out w5 HBw5.out).mono ?_
    rintro e wz ⟨rfl,bz⟩
    go_wp2_with fail
    go_ret
    exact ⟨rfl,HBw5.out.trans (bz.mono HBw5.out.size)⟩
   ·cases r
    ·go_wp2_with fail
     refine (HA.out w5 HBw5.out).mono ?_
     rintro e wz ⟨rfl,bz⟩
     go_wp2_with fail
     go_ret
     exact ⟨rfl,HBw5.out.trans (bz.mono HBw5.out.size)⟩
    ·go_wp2_with fail
     refine (HS.out q w5 (HG.out (HP.out.1 (by trivial)) (HR.out.1 (by trivial))) HBw5.out).mono ?_
     rintro e w6 ⟨rfl,bw6⟩
     have HBw6:=Jh (HBw5.out.trans (bw6.mono HBw5.out.size))
     replace x0:=Z0 bw6 x0
     replace x1:=Z0 bw6 x1
     replace x2:=Z0 bw6 x2
     replace x3:=Z0 bw6 x3
     replace x4:=Z0 bw6 x4
     replace x5:=Z0 bw6 x5
     replace y0:=Z0 bw6 y0
     replace y1:=Z0 bw6 y1
     replace y2:=Z0 bw6 y2
     replace y3:=Z0 bw6 y3
     replace y4:=Z0 bw6 y4
     replace y5:=Z0 bw6 y5
     clear bw6
     have HBd:Below w.heap.size w w6.drew:=HBw6.out.drew
     have hqe:=HQE.out
     go_upto_region 8 with fail
     go_region_held3 (fun W=>Below w.heap.size w W∧W.cell? ⟨w.heap.size,0,none⟩=some (.int .i64 xn)∧W.cell? ⟨w.heap.size,1,none⟩=some (.int .i64 xr)∧W.cell? ⟨w.heap.size,2,none⟩=some (.string xk)∧W.cell? ⟨w.heap.size,3,none⟩=some (.slice xaa xan xac)∧W.cell? ⟨w.heap.size,4,none⟩=some (.slice xta xtn xtc)∧W.cell? ⟨w.heap.size,5,none⟩=some (.slice xsa xsn xsc)∧W.cell? ⟨w.heap.size+1,0,none⟩=some (.int .i64 yn)∧W.cell? ⟨w.heap.size+1,1,none⟩=some (.int .i64 yr)∧W.cell? ⟨w.heap.size+1,2,none⟩=some (.string yk)∧W.cell? ⟨w.heap.size+1,3,none⟩=some (.slice yaa yan yac)∧W.cell? ⟨w.heap.size+1,4,none⟩=some (.slice yta ytn ytc)∧W.cell? ⟨w.heap.size+1,5,none⟩=some (.slice ysa ysn ysc)) (refine ⟨?_,?_,?_,?_,?_,?_,?_,?_,?_,?_,?_,?_,?_⟩ <;> first|assumption|exact HBw6.out|exact hb9|exact hb8|exact hb7|exact Z0 b7 (by assumption)|exact Z0 b8 (Z0 b7 (by assumption))|exact Z0 b9 (Z0 b8 (Z0 b7 (by assumption)))) (first|(go_at_call 11;((with_reducible refine (HA.out _ HBd).mono ?_);rintro e w7 ⟨rfl,b7⟩;(try simp only[ZI,ZA] at b7);have hb7:=HBw6.out.trans (b7.mono HBw6.out.size)))|(go_at_call 12;((with_reducible refine (HRY.out _ (by exact hb8)).mono ?_);(rintro e w9 ⟨rfl,b9⟩;have hb9:=hb8.trans (b9.mono hb8.size))))|(go_at_call 12;((with_reducible refine (HRX.out _ (by exact hb7)).mono ?_);(rintro e w8 ⟨rfl,b8⟩;have hb8:=hb7.trans (b8.mono hb7.size)))))
     all_goals go_wp2_with fail
     all_goals go_ret
     all_goals exact ⟨by rw[←hqe,←Sn];simp,hb9⟩
end Go.Proofs.YtlgipkemoldckaaGreatDoor
namespace Go.Proofs.YtlgipkemoldckaaGreatDoor
open Go Go.ChangeShapes Go.WideShapes Go.ChangeAt Go.RowKit
theorem Ud (os:Os) {H:Type} (enc:TypeId × Value→H):∃ places,DataW.whole enc Tryz.prog ((XO os).forCall (fun _ _=>0) ⟨#[],#[.agg #[.int .i64 0,.int .i64 0,.string ⟨#[]⟩,.slice none 0 0,.slice none 0 0,.slice none 0 0],.agg #[.int .i64 0,.int .i64 0,.string ⟨#[]⟩,.slice none 0 0,.slice none 0 0,.slice none 0 0]],[]⟩).memory Tryz.f4.params.toList Rows.viewTextSpec.vars false (#[.agg #[.int .i64 0,.int .i64 0,.string ⟨#[]⟩,.slice none 0 0,.slice none 0 0,.slice none 0 0],.agg #[.int .i64 0,.int .i64 0,.string ⟨#[]⟩,.slice none 0 0,.slice none 0 0,.slice none 0 0]]:Array Value).toList 8=some ([.agg [.agg [.lit (.int .i64 0),.lit (.int .i64 0)],.lit (.string []),.nil,.nil,.nil],.agg [.agg [.lit (.int .i64 0),.lit (.int .i64 0)],.lit (.string []),.nil,.nil,.nil]],[],places) :=
 ⟨[],by kernel_rfl⟩
theorem VI (os:Os) (started:os.Started) (H:Type) (enc:TypeId × Value→H) (F:Stop.Interp) :
  ReturnsInHanded {} Tryz.checked os 4 .any ((Rows.OpenSpec.upto Rows.viewTextSpec).preRow enc Tryz.prog Tryz.f4 Rows.viewTextUptoRow.domain false Rows.viewTextUptoRow.laid) (((Rows.OpenSpec.upto Rows.viewTextSpec).at F).post enc Tryz.prog Tryz.f4 false true false false):=by
 obtain ⟨places,hx⟩:=Ud os enc
 refine returnsInHanded_of_row (C:=Tryz.checked) (s:=(Rows.OpenSpec.upto Rows.viewTextSpec)) Tryz.own started (by kernel_rfl) Tryz.func4
  (witness_row_at (enc:=enc) (C:=Tryz.checked) false (XO os) #[.agg #[.int .i64 0,.int .i64 0,.string ⟨#[]⟩,.slice none 0 0,.slice none 0 0,.slice none 0 0],.agg #[.int .i64 0,.int .i64 0,.string ⟨#[]⟩,.slice none 0 0,.slice none 0 0,.slice none 0 0]] (Uu os) (by kernel_rfl) (by kernel_rfl) (by kernel_rfl)
   (OpenSpec.preRow_of_cond 8 hx (by kernel_rfl) (fun k hk=>by cases hk;kernel_rfl) (by kernel_rfl) (VY os _))) ?_
 intro W base args ds gs before hval0 hW _ hk _ hL _ _
 have hbk:=hk _ rfl
 have hval:∀ (j:Nat) t v,Tryz.f4.params[j]?=some t→args[j]?=some v→Value.okWide Tryz.prog W .any base t v:=hval0
 have hW':=hW
 obtain ⟨p,q,hA0,hV,rfl,hfz,hnd⟩:=hW
 have hA:DataW.TrodAll enc Tryz.prog W 0 (fun _=>true) true Tryz.f4.params.toList args.toList ds p:=hA0
 rw[Tryz.params4] at hA hval
 obtain ⟨v0,vs0,d0,ds0,p0,q0,hargs,rfl,rfl,h0,r0⟩:=trodAll_cons hA
 obtain ⟨v1,vs1,d1,ds1,p1,q1,rfl,rfl,rfl,h1,r1⟩:=trodAll_cons r0
 obtain ⟨rfl,rfl,rfl⟩:=trodAll_nil r1
 obtain rfl:args=#[v0,v1]:=by cases args;simp_all
 obtain ⟨rfl,rfl⟩:=trodVars_none hV
 have hbulk:Rows.uptoBulk d0+Rows.uptoBulk d1≤1048576:=by
  have:=of_decide_eq_true hbk
  simpa [Rows.uptoBulkAll,Nat.add_assoc] using this
 have k0:=h0
 have lt0:∀ x∈p0,x.block<W.heap.size:=by obtain ⟨m,hm⟩:=k0;exact DataW.trod_lt m _ _ _ hm
 obtain ⟨x0,n0,rfl,g0,b0⟩:=WW (hval 0 28 v0 rfl rfl) h0 (by omega)
 have k1:=h1
 have lt1:∀ x∈p1,x.block<W.heap.size:=by obtain ⟨m,hm⟩:=k1;exact DataW.trod_lt m _ _ _ hm
 obtain ⟨x1,n1,rfl,g1,b1⟩:=WW (hval 1 28 v1 rfl rfl) h1 (by omega)
 clear hA0 hval0
 refine (R9 n0 n1 x0 x1 W g0 g1 (Vl hL) b0 b1).mono fun e W' ⟨he,bel⟩=>?_
 subst he
 exact ⟨_,rfl,_,_,_,[],_,[],hW',trodAll_mk1 (shut_bool Tryz.underlying4 _),(trodAll_cons_mk (Below.trod Tryz.laidOut (by kernel_rfl) (of_decide_eq_true (by kernel_rfl)) k0 bel lt0) (trodAll_cons_mk (Below.trod Tryz.laidOut (by kernel_rfl) (of_decide_eq_true (by kernel_rfl)) k1 bel lt1) trodAll_mk0)),rfl,bel.frame _,fun h=>by cases h⟩
theorem TU:(Rows.viewTextUptoRow.inPlace == Tryz.prog.inPlace 4)=true:=by kernel_rfl
theorem TF:(Rows.viewTextUptoRow.unfollowed == Tryz.prog.unfollowed 4)=true:=by kernel_rfl
theorem TR:(Rows.viewTextUptoRow.recurses == Tryz.prog.recurses 4)=true:=by kernel_rfl
theorem S2:(Rows.viewTextUptoRow.named == Tryz.prog.varsNamed 4)=true:=by kernel_rfl
theorem UO:joinedFacts Tryz.prog 4 Tryz.f4 (Rows.OpenSpec.upto Rows.viewTextSpec).bare Rows.viewTextUptoRow=true:=by
 unfold joinedFacts
 rw[TU,TF,TR,S2]
 kernel_rfl
theorem UR:Rows.ViewTextUptoSaid :=
 OpenClaim.holds_of_cond 4 Tryz.f4 rfl rfl rfl rfl rfl rfl rfl ⟨rfl,rfl,rfl,rfl,rfl⟩ rfl rfl rfl rfl rfl (by kernel_rfl) Tryz.func4 UO
  (of_decide_eq_true (by kernel_rfl)) (by unfold Func.isWrapper;first|(rw[if_pos (by decide +kernel)];kernel_rfl)|(rw[if_neg (by decide +kernel)];exact ⟨rfl,rfl⟩))
  (fun os started H enc _ F=>by rw[OpenClaim.pre_eq_preRow];exact VI os started H enc F)
theorem viewTextUpto_card:Rows.ViewTextUptoCardSaid :=
 Claim7.holds_tied_plain_at .later [] _ _ _ _
  UR (fun _ h=>by cases h) (by kernel_rfl) (fun _ h=>by cases h) viewTextUpto_row_tie rfl ⟨rfl,rfl⟩ (by kernel_rfl) rfl
  (fun f fn hf hfn=>by
   obtain rfl : f = 4 := Option.some.inj ((show Tryz.prog.funcNamed "stemma/stemmalaw20.ViewText" = some 4 by kernel_rfl).symm.trans hf) |>.symm
   obtain rfl:fn=Tryz.f4:=(Option.some.inj (Tryz.func4.symm.trans hfn)).symm
   exact ⟨by kernel_rfl,fun j t ht=>by
    rw[Tryz.params4] at ht
    have hm:t∈[28,28]:=by simpa using Array.mem_of_getElem? ht
    have hall:([28,28].all fun u=>!Tryz.prog.wantsStandIn u)=true:=by kernel_rfl
    exact (show Tryz.prog.wantsStandIn t=false by simpa using List.all_eq_true.1 hall t hm)⟩)
  (by kernel_rfl)
#print axioms viewTextUpto_card
end Go.Proofs.YtlgipkemoldckaaGreatDoor
