/- ViewKinds, part 14 of what the proof leans on (made short by a program). -/
import Derived.Test.YtlgipkemoldckaaGreatDoorVkZ13
import Derived.Lib.SmallJoins
set_option linter.unusedSimpArgs false
set_option linter.unusedVariables false
set_option linter.unusedSectionVars false
set_option maxRecDepth 20000
set_option maxHeartbeats 30000000
namespace Go.Proofs.YtlgipkemoldckaaGreatDoor
open Go.RowKit
theorem Sb:Tryz.prog.underlying 102=some (.map 23 109):=by kernel_rfl
theorem KM.le {base base':Nat} {W:World} {kb:Nat} {F:St→List Ch} {lk:List (St × Sl)} (h:KM base W kb F lk) (hb:base'≤base):KM base' W kb F lk :=
 ⟨h.map,fun u s hs=>(h.row u s hs).mono hb,h.non,h.far⟩
theorem TQ {P:Program} {ops:Array Oper} {Q:Exit→Act→World→Prop} {md:Region.Mode} {S:World→Prop} {Z:Nat→Bool} {rs:List Nat} {fuel:Nat} {listed:Array Bool} {a:Act} {w:World} (hr:Region.ready md ops listed=rs) (hne:rs≠[])
  (h:∀ i∈rs,wpOp P ops Q i (fun a' w'=>(Z i=false→S w')∧Zu P md ops Q S Z fuel (listed.setIfInBounds i true) a' w') a w):Zu P md ops Q S Z (fuel+1) listed a w :=
 ⟨fun h0=>absurd (hr.symm.trans h0) hne,fun j hj=>by rw[hr] at hj;exact h j hj⟩
theorem Q9 {P:Program} {ops:Array Oper} {Q:Exit→Act→World→Prop} {i:Nat} {o:Oper} {d:Option Tmp} {v:Value} {K:Act→World→Prop} {a:Act} {w w':World} (ho:ops[i]?=some o) (hd:o.dst=d) (hw:Region.wanted o (yielded ops a.tmps)=true)
  (hv:(execOp a.eval o).run P w=.ok (.value v) w') (h:K (a.put d v) w'):wpOp P ops Q i K a w:=by
 subst hd
 exact wpOp_step ho fun K' hK=>by
  rw[if_pos hw,Oper.wp,hv]
  exact hK _ _ h
theorem Z3c {K V:Type} [DecidableEq K] {l:List (K × V)} {k:K} {v:V} (h:Z3 l k=some v):(k,v)∈l:=by
 induction l with
 | nil=>cases h
 | cons p r ih =>
  obtain ⟨k',v'⟩:=p
  simp only[Z3] at h
  split at h
  ·rename_i e;subst e;cases h;exact List.mem_cons_self ..
  ·exact List.mem_cons_of_mem _ (ih h)
theorem Rx {K V:Type} [DecidableEq K] {l:List (K × V)} {k:K} {v:V} (hn:(l.map (·.1)).Nodup) (h:(k,v)∈l):Z3 l k=some v:=by
 induction l with
 | nil=>cases h
 | cons p r ih =>
  obtain ⟨k',v'⟩:=p
  simp only[List.map_cons,List.nodup_cons] at hn
  rcases List.mem_cons.1 h with e|e
  ·cases e;simp[Z3]
  ·have hne:k'≠k:=fun e2=>hn.1 (by rw[e2];exact List.mem_map.2 ⟨_,e,rfl⟩)
   simp only[Z3,if_neg hne]
   exact ih hn.2 e
def Sq (kb:Nat) (A:List Ch) (ps:List (St × Spn)) (w:World) (e:Ending) (w':World):Prop :=
 e=.returned (.tuple #[])∧∃ (C:List Ch) (F:St→List Ch) (lk:List (St × Sl)),Gth A (fun s=>s∈ps.map (·.1)∨∃ d∈A,d.under=s) C∧KM w.heap.size w' kb F lk∧(∀ u,(F u).Perm (YH C u)∧(F u).Pairwise YA)∧Ext (·=kb) w w'
theorem Z1O (bb kb pb:Nat) (va:Option Addr) (ca:Nat) (A:List Ch) (ps:List (St × Spn)) (w:World) (hb1:w.cell? ⟨bb,1,none⟩=some (.map (some pb))) (hb2:w.cell? ⟨bb,2,none⟩=some (.map (some kb))) (hmp:Z6 St.val Spn.val w pb ps) (hps:ps.length≤1000)
  (hkm:Z6 St.val Sl.val w kb []) (hv:Z5 Ch.cells 5 w (.slice va A.length ca) A) (hA:A.length≤1000) (hnd:A.Pairwise (fun a b=>a.block≠b.block)) (hA0:∀ c∈A,c.block≠⟨0,0⟩) (hne:pb≠kb) :
  Calls Tryz.prog 46 #[.pointer (some ⟨bb,0,none⟩),.slice va A.length ca] w fun e w'=>Sq kb A ps w e w':=by
 have hmm:=@run_makeMap Tryz.prog
 have hins:∀ W,Z6 St.val Yy W (w.heap.size+1) []→(Instr.mapUpdate 135 (.map (some (w.heap.size+1))) (.agg #[.int .i64 0,.int .i64 0]) (.int .i64 1)).run Tryz.prog W=.ok () (Zp W (w.heap.size+1) none (St.val ⟨0,0⟩) (Yy 1)):=fun W hW=>hW.update ZN Wa ⟨0,0⟩ (Yy 1)
 have hm0:Z6 St.val Yy ((w.alloc (.cells #[.pointer (some ⟨bb,0,none⟩)] 101)).alloc (.map #[] 0)) (w.heap.size+1) []:=by
  have:=Z6.made (ek:=St.val) (ev:=Yy) (w.alloc (.cells #[.pointer (some ⟨bb,0,none⟩)] 101))
  rwa [show (w.alloc (.cells #[.pointer (some ⟨bb,0,none⟩)] 101)).heap.size=w.heap.size+1 by simp] at this
 have hins0:=hins _ hm0
 go_enter Tryz.func46,Tryz.ntmps46
 go_upto_region 2 with fail
 have z1:(Zp ((w.alloc (.cells #[.pointer (some ⟨bb,0,none⟩)] 101)).alloc (.map #[] 0)) (w.heap.size+1) none (St.val ⟨0,0⟩) (Yy 1)).heap.size=w.heap.size+2:=by rw[Wj];simp
 have hB0:Below w.heap.size w (Zp ((w.alloc (.cells #[.pointer (some ⟨bb,0,none⟩)] 101)).alloc (.map #[] 0)) (w.heap.size+1) none (St.val ⟨0,0⟩) (Yy 1)):=((Xr _ _ _ _ _).andThen (S:=(·=w.heap.size+1)) (Ext.refl (fun _=>False) _) (fun _ _ f=>f.elim)) |> fun hx=>Ext.new (((Below.refl _ _).alloc (Nat.le_refl _) _).alloc (by simp) _) hx (fun i hi _ e=>by omega) (by simp;omega)
 have b0:(Zp ((w.alloc (.cells #[.pointer (some ⟨bb,0,none⟩)] 101)).alloc (.map #[] 0)) (w.heap.size+1) none (St.val ⟨0,0⟩) (Yy 1)).heap[w.heap.size]?=some (.cells #[.pointer (some ⟨bb,0,none⟩)] 101):=by
  rw[XP _ _ _ _ _ _ (by omega),Below.heap_alloc _ _ _ (by simp)]
  exact World.alloc_heap_new w _
 have m1:Z6 St.val Yy (Zp ((w.alloc (.cells #[.pointer (some ⟨bb,0,none⟩)] 101)).alloc (.map #[] 0)) (w.heap.size+1) none (St.val ⟨0,0⟩) (Yy 1)) (w.heap.size+1) [(⟨0,0⟩,1)]:=hm0.put ⟨0,0⟩ 1
 rw[z1]
 generalize Zp ((w.alloc (.cells #[.pointer (some ⟨bb,0,none⟩)] 101)).alloc (.map #[] 0)) (w.heap.size+1) none (St.val ⟨0,0⟩) (Yy 1)=w0 at *
 have z2:(w0.alloc (.cells #[.map (some (w.heap.size+1))] 135)).heap.size=w.heap.size+3:=by simp;omega
 have hB1:Below w.heap.size w (w0.alloc (.cells #[.map (some (w.heap.size+1))] 135)):=hB0.alloc (by omega) _
 have b2:(w0.alloc (.cells #[.map (some (w.heap.size+1))] 135)).heap[w.heap.size]?=some (.cells #[.pointer (some ⟨bb,0,none⟩)] 101):=(Below.heap_alloc _ _ _ (by omega)).trans b0
 have b3:(w0.alloc (.cells #[.map (some (w.heap.size+1))] 135)).heap[w.heap.size+2]?=some (.cells #[.map (some (w.heap.size+1))] 135 (0,0)):=by have:=World.alloc_heap_new w0 (.cells #[.map (some (w.heap.size+1))] 135);rwa [z1] at this
 have sn1:XC (w0.alloc (.cells #[.map (some (w.heap.size+1))] 135)) (w.heap.size+1) 1 []:=by
  refine ⟨_,m1.alloc _,fun u=>?_,fun u v h=>?_⟩
  ·by_cases hu:u=⟨0,0⟩
   ·subst hu;simp[Z3]
   ·simp[Z3,hu,Ne.symm hu]
  ·simp only[Z3] at h
   split at h
   ·cases h;omega
   ·cases h
 generalize w0.alloc (.cells #[.map (some (w.heap.size+1))] 135)=w1 at *
 have km1:KM (w.heap.size+3) w1 kb (YH []) []:=⟨hkm.below hB1,(fun u s h=>by cases h),(fun u _=>rfl),(fun u u' s s' b h=>by cases h)⟩
 have hv1:=hv.below hB1
 have d1:=Z0 hB1 hb1
 have d2:=Z0 hB1 hb2
 have mp1:=hmp.below hB1
 have hkl:=hkm.lt
 have hpl:=hmp.lt
 have hbl:=Zj hb1
 have hbk:bb≠kb:=fun e=>by
  obtain ⟨_,es,cl,h,_⟩:=hkm
  simp only[World.cell?,e,h] at hb1
  cases hb1
 have HB1:=Lib.hid hB1
 have HV1:=Lib.hid hv1
 have HMP:=Lib.hid mp1
 have HND:=Lib.hid hnd
 have HA0:=Lib.hid hA0
 clear hm0 hins hins0 hB0 b0 m1 hkm hv hb1 hb2 hmp hB1 hv1 mp1 hnd hA0 z1
 obtain ⟨i0,hi,hz0,hz1,hz2⟩:=info_parts Xw
 have c0:w1.cell? ⟨w.heap.size,0,none⟩=some (.pointer (some ⟨bb,0,none⟩)):=by simp[World.cell?,b2]
 have c2:w1.cell? ⟨w.heap.size+2,0,none⟩=some (.map (some (w.heap.size+1))):=by simp[World.cell?,b3]
 have SN1:=Lib.hid sn1
 have KM1:=Lib.hid km1
 clear sn1 km1
 go_wp2_with fail
 go_loopg [18] A.length (fun g i wx=>∃ (k:Nat) (lk:List (St × Sl)),g=A.length - k∧k≤A.length∧i=.int .i64 k∧Hid (XC wx (w.heap.size+1) (k+1) (A.take k))∧Hid (KM (w.heap.size+3) wx kb (YH (A.take k)) lk)∧Hid (Ext (fun i=>i=w.heap.size+1∨i=kb) w1 wx))
 case atStart=>exact ⟨0,[],rfl,Nat.zero_le _,rfl,SN1,KM1,Jh (Ext.refl _ _)⟩
 case round =>
  obtain ⟨k,lk,hg,hk,rfl,HS,HK,HX⟩:=hrel
  have HG:=Lib.hid hg
  have hxz:=HX.out.size
  clear hg
  by_cases hlt:k<A.length
  ·obtain ⟨x,hx⟩:∃ x,A[k]?=some x:=⟨_,List.getElem?_eq_getElem hlt⟩
   obtain ⟨ba,oa,ca1,e1,hcs⟩:=HV1.out.dcells (by intro e;rw[e] at hlt;simp at hlt)
   cases e1
   obtain ⟨x0,x1,x2,x3,x4⟩:=hcs k x hx
   have hba:ba<w.heap.size+3:=by have:=Zj x0;omega
   have hbn:¬ (ba=w.heap.size+1∨ba=kb):=fun e=>by
    rcases e with e|e
    ·obtain ⟨ls,hls,_⟩:=SN1.out
     obtain ⟨_,es,cl,h,_⟩:=hls
     simp only[World.cell?,e,h] at x0
     cases x0
    ·obtain ⟨_,es,cl,h,_⟩:=KM1.out.map
     simp only[World.cell?,e,h] at x0
     cases x0
   replace x0:=HX.out.keep x0 hbn
   replace x1:=HX.out.keep x1 hbn
   replace x2:=HX.out.keep x2 hbn
   replace x3:=HX.out.keep x3 hbn
   replace x4:=HX.out.keep x4 hbn
   have c0k:=HX.out.keep c0 (by omega)
   have c2k:=HX.out.keep c2 (by omega)
   have d2k:=HX.out.keep d2 (by omega)
   obtain ⟨⟨xn,xr⟩,⟨un,ur⟩,xk⟩:=x
   simp only at x0 x1 x2 x3 x4
   have HX0:=Lib.hid hx
   clear hx hcs
   have hkk:(k:Int)<(A.length:Int):=by omega
   have hk0:(0:Int)≤(k:Int):=by omega
   go_upto_region 5 with fail
   have y0:(wr.alloc (.cells #[.int .i64 xn,.int .i64 xr,.int .i64 un,.int .i64 ur,.string xk] 53)).cell? ⟨wr.heap.size,0,none⟩=some (.int .i64 xn):=by go_simp
   have y1:(wr.alloc (.cells #[.int .i64 xn,.int .i64 xr,.int .i64 un,.int .i64 ur,.string xk] 53)).cell? ⟨wr.heap.size,1,none⟩=some (.int .i64 xr):=by go_simp
   have y2:(wr.alloc (.cells #[.int .i64 xn,.int .i64 xr,.int .i64 un,.int .i64 ur,.string xk] 53)).cell? ⟨wr.heap.size,2,none⟩=some (.int .i64 un):=by go_simp
   have y3:(wr.alloc (.cells #[.int .i64 xn,.int .i64 xr,.int .i64 un,.int .i64 ur,.string xk] 53)).cell? ⟨wr.heap.size,3,none⟩=some (.int .i64 ur):=by go_simp
   have y4:(wr.alloc (.cells #[.int .i64 xn,.int .i64 xr,.int .i64 un,.int .i64 ur,.string xk] 53)).cell? ⟨wr.heap.size,4,none⟩=some (.string xk):=by go_simp
   have hza:(wr.alloc (.cells #[.int .i64 xn,.int .i64 xr,.int .i64 un,.int .i64 ur,.string xk] 53)).heap.size=wr.heap.size+1:=by simp
   have HXA:Hid (Ext (fun i=>i=w.heap.size+1∨i=kb) w1 (wr.alloc (.cells #[.int .i64 xn,.int .i64 xr,.int .i64 un,.int .i64 ur,.string xk] 53))):=Jh (HX.out.alloc _)
   have HKA:Hid (KM (w.heap.size+3) (wr.alloc (.cells #[.int .i64 xn,.int .i64 xr,.int .i64 un,.int .i64 ur,.string xk] 53)) kb (YH (A.take k)) lk):=Jh (HK.out.ext ((Ext.refl (fun _=>False) _).alloc _) (fun f=>f) (fun _ _ f=>f))
   have hrz:∀ b u,((Z3 lk u).getD Z2).val.ownBlock=some b→b<wr.heap.size:=fun b u hb=>((HK.out.own u).blk b hb).2
   obtain ⟨ls,hls,hlz,hlv⟩:=HS.out
   have hlsA:=hls.alloc (.cells #[.int .i64 xn,.int .i64 xr,.int .i64 un,.int .i64 ur,.string xk] 53)
   replace c0k:=Z1 c0k (.cells #[.int .i64 xn,.int .i64 xr,.int .i64 un,.int .i64 ur,.string xk] 53)
   replace c2k:=Z1 c2k (.cells #[.int .i64 xn,.int .i64 xr,.int .i64 un,.int .i64 ur,.string xk] 53)
   replace d2k:=Z1 d2k (.cells #[.int .i64 xn,.int .i64 xr,.int .i64 un,.int .i64 ur,.string xk] 53)
   have hsp:=Ru (C:=A.take k) (C':=A.take (k+1)) (u:=⟨xn,xr⟩) hlz hlv (fun u=>by
    rw[List.take_add_one,HX0.out]
    constructor
    ·rintro ⟨c,hc,e⟩
     rcases List.mem_append.1 hc with hc|hc
     ·exact .inl ⟨c,hc,e⟩
     ·simp at hc;subst hc;exact .inr e.symm
    ·rintro (⟨c,hc,e⟩|rfl)
     ·exact ⟨c,List.mem_append_left _ hc,e⟩
     ·exact ⟨⟨⟨xn,xr⟩,⟨un,ur⟩,xk⟩,by simp,rfl⟩)
   have hqb:0≤(Z3 ls ⟨xn,xr⟩).getD 0∧(Z3 ls ⟨xn,xr⟩).getD 0≤1001:=by
    cases e:Z3 ls ⟨xn,xr⟩ with
    | none=>simp
    | some v=>have:=hlv _ v e;simp;omega
   have hen:=hlsA.entry ZN Wa U4 ⟨xn,xr⟩ (0:Int)
   rw[show ((Z3 ls ⟨xn,xr⟩).map Yy).getD (.int .i64 0)=.int .i64 ((Z3 ls ⟨xn,xr⟩).getD 0) from by cases Z3 ls ⟨xn,xr⟩ <;> rfl] at hen
   obtain ⟨st,es1,cl1,e1,e2,e3,e4⟩:=hen
   generalize hq:(Z3 ls ⟨xn,xr⟩).getD 0=q at *
   have HSP:=Lib.hid hsp
   clear hsp hlz hlv hls hq x0 x1 x2 x3 x4 HK HX
   generalize wr.alloc (.cells #[.int .i64 xn,.int .i64 xr,.int .i64 un,.int .i64 ur,.string xk] 53)=w2 at *
   have hsb:w.heap.size+1<w2.heap.size:=by omega
   obtain ⟨es0,k0,hb0,-⟩:=hlsA.2
   have hadd:IntKind.i64.wrap (q+1)=q+1:=IntWalk.i64_in _ (by omega)
   have hS0:(fun W:World=>W.cell? ⟨w.heap.size+2,0,none⟩=some (.map (some (w.heap.size+1)))∧W.cell? ⟨wr.heap.size,0,none⟩=some (.int .i64 xn)∧W.cell? ⟨wr.heap.size,1,none⟩=some (.int .i64 xr)∧(Instr.lookup 135 (.map (some (w.heap.size+1))) (.agg #[.int .i64 xn,.int .i64 xr]) false).run Tryz.prog W=.ok (.int .i64 q) W) w2.drew:=⟨c2k,y0,y1,e2 _ rfl⟩
   refine Zf (fun W:World=>W.cell? ⟨w.heap.size+2,0,none⟩=some (.map (some (w.heap.size+1)))∧W.cell? ⟨wr.heap.size,0,none⟩=some (.int .i64 xn)∧W.cell? ⟨wr.heap.size,1,none⟩=some (.int .i64 xr)∧(Instr.lookup 135 (.map (some (w.heap.size+1))) (.agg #[.int .i64 xn,.int .i64 xr]) false).run Tryz.prog W=.ok (.int .i64 q) W) (fun i=>i == 7) (by kernel_rfl) ?_
   refine J4 0 22 (.map (some (w.heap.size+1))) hS0 ?_
   try simp only[Ja]
   refine J4 1 23 _ hS0 ?_
   try simp only[Ja]
   refine J4 2 24 (.agg #[.int .i64 xn,.int .i64 xr]) hS0 ?_
   try simp only[Ja]
   refine J4 3 25 (.int .i64 q) hS0 ?_
   try simp only[Ja]
   refine J4 4 26 (.int .i64 (q+1)) hS0 ?_
   try simp only[Ja]
   have hS1:(fun W:World=>W.cell? ⟨w.heap.size+2,0,none⟩=some (.map (some (w.heap.size+1)))∧W.cell? ⟨wr.heap.size,0,none⟩=some (.int .i64 xn)∧W.cell? ⟨wr.heap.size,1,none⟩=some (.int .i64 xr)∧(Instr.lookup 135 (.map (some (w.heap.size+1))) (.agg #[.int .i64 xn,.int .i64 xr]) false).run Tryz.prog W=.ok (.int .i64 q) W) (w2.drew.putObj (w.heap.size+1) (.map es1 cl1)):=⟨(YG hb0 _ _ _).trans c2k,(YG hb0 _ _ _).trans y0,(YG hb0 _ _ _).trans y1,e3 _ (World.putObj_heap_same hsb)⟩
   refine Zl (i:=5) (d:=some 27) (v:=.tuple #[.int .i64 q,.int .i64 st]) (w':=w2.drew.putObj (w.heap.size+1) (.map es1 cl1)) (by kernel_rfl) rfl rfl (by rfl) (by have r:(Instr.mapEntry 135 (.map (some (w.heap.size+1))) (.agg #[.int .i64 xn,.int .i64 xr])).run Tryz.prog w2.drew=_:=e1 w2.drew rfl;go_simp;try rw[r]) (fun _=>hS1) ?_
   try simp only[Ja]
   obtain ⟨es2,cl2,f1,f2⟩:=e4 (w2.drew.putObj (w.heap.size+1) (.map es1 cl1)) (q+1) (World.putObj_heap_same hsb)
   refine Zl (i:=6) (d:=some 28) (v:=.int .i64 st) (w':=w2.drew.putObj (w.heap.size+1) (.map es1 cl1)) (by kernel_rfl) rfl rfl (by rfl) (by go_simp;try rfl) (fun _=>hS1) ?_
   try simp only[Ja]
   refine Zh (i:=7) (d:=none) (w':=(w2.drew.putObj (w.heap.size+1) (.map es1 cl1)).putObj (w.heap.size+1) (.map es2 cl2)) (by kernel_rfl) rfl rfl (by rfl) (by have r:(Instr.entryStore 135 (.map (some (w.heap.size+1))) (.int .i64 st) (.int .i64 (q+1))).run Tryz.prog (w2.drew.putObj (w.heap.size+1) (.map es1 cl1))=_:=f1;go_simp;try rw[r]) (fun h=>by cases h) ?_
   try simp only[Ja]
   refine Zd (by kernel_rfl) ?_ _
   have hxa:Ext (·=w.heap.size+1) w2 ((w2.drew.putObj (w.heap.size+1) (.map es1 cl1)).putObj (w.heap.size+1) (.map es2 cl2)):=(Ext.refl _ _).drew.trans ((Xv _ _ _).trans (Xv _ _ _))
   have HSN:Hid (XC ((w2.drew.putObj (w.heap.size+1) (.map es1 cl1)).putObj (w.heap.size+1) (.map es2 cl2)) (w.heap.size+1) (k+1+1) (A.take (k+1))):=Lib.hid ⟨_,f2,HSP.out.1,HSP.out.2⟩
   have k2:=HKA.out.ext hxa (by omega) (fun b hb e=>by
    obtain ⟨_,cur,hc⟩:=hb
    rw[e,hb0] at hc
    cases hc)
   have HXB:=Jh (HXA.out.trans (hxa.mono (fun _ _ e=>.inl e)))
   replace c0k:=hxa.keep c0k (by omega)
   replace d2k:=hxa.keep d2k (fun e=>by
    simp only[World.cell?,e,hb0] at d2k
    cases d2k)
   replace y0:=hxa.keep y0 (by omega)
   replace y1:=hxa.keep y1 (by omega)
   replace y2:=hxa.keep y2 (by omega)
   replace y3:=hxa.keep y3 (by omega)
   replace y4:=hxa.keep y4 (by omega)
   have hzb:=hxa.size
   clear hS0 hS1 e1 e2 e3 e4 f1 f2 hxa hlsA HSP HXA HKA hb0 hadd hqb c2k
   generalize (w2.drew.putObj (w.heap.size+1) (.map es1 cl1)).putObj (w.heap.size+1) (.map es2 cl2)=w3 at *
   go_upto_region 6 with fail
   have hown0:=k2.own ⟨un,ur⟩
   have hfl:=Tv (A.take k) ⟨un,ur⟩
   have htl:(A.take k).length≤k:=by rw[List.length_take];omega
   have hen:=k2.map.drew.entry ZN WS VG ⟨un,ur⟩ Z2
   rw[show ((Z3 lk ⟨un,ur⟩).map Sl.val).getD (.slice none 0 0)=((Z3 lk ⟨un,ur⟩).getD Z2).val from by cases Z3 lk ⟨un,ur⟩ <;> rfl] at hen
   obtain ⟨st,es1,cl1,e1,-,-,e4⟩:=hen
   obtain ⟨es0,k0,hb0,-⟩:=k2.map.2
   have hkl3:kb<w3.heap.size:=k2.map.lt
   have hx12:Ext (·=kb) w3 ((w3.drew.alloc (.cells #[.int .i64 xn,.int .i64 xr,.int .i64 un,.int .i64 ur,.string xk] 53)).putObj kb (.map es1 cl1)):=((Ext.refl _ _).drew.alloc _).trans (Xv _ _ _)
   have hbA:(w3.drew.alloc (.cells #[.int .i64 xn,.int .i64 xr,.int .i64 un,.int .i64 ur,.string xk] 53)).heap[kb]?=some (.map es0 k0):=(Below.heap_alloc _ _ _ hkl3).trans hb0
   have hz4:((w3.drew.alloc (.cells #[.int .i64 xn,.int .i64 xr,.int .i64 un,.int .i64 ur,.string xk] 53)).putObj kb (.map es1 cl1)).heap.size=w3.heap.size+1:=by simp[World.putObj]
   have hownA:Own Ch.cells 5 53 (w.heap.size+3) ((w3.drew.alloc (.cells #[.int .i64 xn,.int .i64 xr,.int .i64 un,.int .i64 ur,.string xk] 53)).putObj kb (.map es1 cl1)) ((Z3 lk ⟨un,ur⟩).getD Z2).val (YH (A.take k) ⟨un,ur⟩):=(hown0.drew.alloc _).ext (Xv _ _ _) (fun b hb e=>by
    cases e2:Z3 lk ⟨un,ur⟩ with
    | some s=>rw[e2] at hb;exact (k2.blk e2 hb).2 e
    | none=>rw[e2] at hb;cases hb)
   obtain ⟨v3,w4,hr3,hown3,hx3,hfr3⟩:=Yx (P:=Tryz.prog) 48 48 i0 (.agg #[.int .i64 0,.int .i64 0,.int .i64 0,.int .i64 0,.string ⟨#[]⟩]) 48 Wi hi hz0 hz1 hz2 rfl (by omega) (fun _=>rfl) (fun x u hu=>by simp[Ch.cells] at hu;rcases hu with rfl|rfl|rfl|rfl|rfl <;> rfl) hownA ⟨⟨xn,xr⟩,⟨un,ur⟩,xk⟩ w3.heap.size 1 (fun j u hj=>by
    rw[YG hbA]
    match j,hj with
    | 0,hj=>simp[Ch.cells] at hj;subst hj;go_simp
    | 1,hj=>simp[Ch.cells] at hj;subst hj;go_simp
    | 2,hj=>simp[Ch.cells] at hj;subst hj;go_simp
    | 3,hj=>simp[Ch.cells] at hj;subst hj;go_simp
    | 4,hj=>simp[Ch.cells] at hj;subst hj;go_simp
    | n+5,hj=>simp[Ch.cells] at hj) (by unfold maxLen;omega) (by omega) (by omega)
   obtain ⟨s3,rfl⟩:∃ s3:Sl,v3=s3.val:=by
    rcases hown3.eq_slice with ⟨e,_⟩|⟨g,c,e,_⟩
    ·exact ⟨Z2,e⟩
    ·exact ⟨⟨_,_,_⟩,e⟩
   have hrow:∀ b,((Z3 lk ⟨un,ur⟩).getD Z2).val.ownBlock=some b→b≠kb∧w.heap.size+3≤b:=fun b hb=>by
    cases e2:Z3 lk ⟨un,ur⟩ with
    | some s=>rw[e2] at hb;exact ⟨(k2.blk e2 hb).2,(k2.blk e2 hb).1.1⟩
    | none=>rw[e2] at hb;cases hb
   have hrz2:=fun b=>hrz b ⟨un,ur⟩
   obtain ⟨es2,cl2,f1,f2⟩:=e4 w4 s3 ((hx3.block kb (by omega) (fun e=>(hrow _ e).1 rfl)).trans (World.putObj_heap_same (by simp;omega)))
   have hfin:=k2.put (l:=YH (A.take k) ⟨un,ur⟩++[⟨⟨xn,xr⟩,⟨un,ur⟩,xk⟩]) hx12 hx3 hown3 hfr3 (Xv w4 kb (.map es2 cl2)) f2
   have hfil:We (YH (A.take k)) ⟨un,ur⟩ (YH (A.take k) ⟨un,ur⟩++[⟨⟨xn,xr⟩,⟨un,ur⟩,xk⟩])=YH (A.take (k+1)):=by
    rw[List.take_add_one,HX0.out]
    exact (SP (A.take k) ⟨⟨xn,xr⟩,⟨un,ur⟩,xk⟩).symm
   rw[hfil] at hfin
   have hxc:Ext (fun i=>i=w.heap.size+1∨i=kb) w1 (w4.putObj kb (.map es2 cl2)):=((HXB.out.trans (hx12.mono (fun _ _ e=>.inr e))).andThen hx3 (fun i hi e=>by have:=(hrow _ e).2;omega)).trans ((Xv w4 kb (.map es2 cl2)).mono (fun _ _ e=>.inr e))
   have hsn3:XC (w4.putObj kb (.map es2 cl2)) (w.heap.size+1) (k+1+1) (A.take (k+1)):=((HSN.out.ext hx12 (fun e=>by omega)).ext hx3 (fun e=>by have:=(hrow _ e).2;omega)).ext (Xv w4 kb (.map es2 cl2)) (fun e=>by omega)
   have HFIN:=Lib.hid hfin
   have HXC:=Lib.hid hxc
   have HSN3:=Lib.hid hsn3
   have hS4:w4.cell? ⟨w.heap.size,0,none⟩=some (.pointer (some ⟨bb,0,none⟩))∧w4.cell? ⟨bb,2,none⟩=some (.map (some kb))∧w4.cell? ⟨wr.heap.size,0,none⟩=some (.int .i64 xn)∧w4.cell? ⟨wr.heap.size,1,none⟩=some (.int .i64 xr)∧w4.cell? ⟨wr.heap.size,2,none⟩=some (.int .i64 un)∧w4.cell? ⟨wr.heap.size,3,none⟩=some (.int .i64 ur)∧w4.cell? ⟨wr.heap.size,4,none⟩=some (.string xk):=by
    have kp:∀ b o u,w3.cell? ⟨b,o,none⟩=some u→¬ (((Z3 lk ⟨un,ur⟩).getD Z2).val.ownBlock=some b)→w4.cell? ⟨b,o,none⟩=some u:=fun b o u h hn=>hx3.keep ((YG hbA _ _ _).trans (Z1 h _)) hn
    have n1:∀ b,b<w.heap.size+3→¬ (((Z3 lk ⟨un,ur⟩).getD Z2).val.ownBlock=some b):=fun b hb e=>by have:=(hrow _ e).2;omega
    have n2:¬ (((Z3 lk ⟨un,ur⟩).getD Z2).val.ownBlock=some wr.heap.size):=fun e=>by have:=hrz2 _ e;omega
    exact ⟨kp _ _ _ c0k (n1 _ (by omega)),kp _ _ _ d2k (n1 _ (by omega)),kp _ _ _ y0 n2,kp _ _ _ y1 n2,kp _ _ _ y2 n2,kp _ _ _ y3 n2,kp _ _ _ y4 n2⟩
   obtain ⟨sa,sm,sc,hs0⟩:∃ sa sm sc,(Z3 lk ⟨un,ur⟩).getD Z2=⟨sa,sm,sc⟩:=⟨_,_,_,rfl⟩
   rw[hs0] at hr3 e1
   simp only[Sl.val] at hr3 e1 f1
   have HS4:=Lib.hid hS4
   have HSK:Hid (∀ (b o:Nat) u,w3.cell? ⟨b,o,none⟩=some u→(w3.drew.putObj kb (.map es1 cl1)).cell? ⟨b,o,none⟩=some u∧((w3.drew.alloc (.cells #[.int .i64 xn,.int .i64 xr,.int .i64 un,.int .i64 ur,.string xk] 53)).putObj kb (.map es1 cl1)).cell? ⟨b,o,none⟩=some u):=Jh (fun b o u h=>⟨(YG hb0 _ _ _).trans h,(YG hbA _ _ _).trans (Z1 h _)⟩)
   have r1:(Instr.mapEntry 103 (.map (some kb)) (.agg #[.int .i64 un,.int .i64 ur])).run Tryz.prog w3.drew=.ok (.tuple #[.slice sa sm sc,.int .i64 st]) (w3.drew.putObj kb (.map es1 cl1)):=e1 w3.drew rfl
   have r2:(Instr.mapEntry 103 (.map (some kb)) (.agg #[.int .i64 un,.int .i64 ur])).run Tryz.prog (w3.drew.alloc (.cells #[.int .i64 xn,.int .i64 xr,.int .i64 un,.int .i64 ur,.string xk] 53))=.ok (.tuple #[.slice sa sm sc,.int .i64 st]) ((w3.drew.alloc (.cells #[.int .i64 xn,.int .i64 xr,.int .i64 un,.int .i64 ur,.string xk] 53)).putObj kb (.map es1 cl1)):=e1 (w3.drew.alloc (.cells #[.int .i64 xn,.int .i64 xr,.int .i64 un,.int .i64 ur,.string xk] 53)) (Below.heap_alloc _ _ _ hkl3)
   have r3:(Instr.entryStore 103 (.map (some kb)) (.int .i64 st) (.slice s3.a s3.n s3.cap)).run Tryz.prog w4=.ok () (w4.putObj kb (.map es2 cl2)):=f1
   have hcom:(w3.drew.putObj kb (.map es1 cl1)).alloc (.cells #[.int .i64 xn,.int .i64 xr,.int .i64 un,.int .i64 ur,.string xk] 53)=(w3.drew.alloc (.cells #[.int .i64 xn,.int .i64 xr,.int .i64 un,.int .i64 ur,.string xk] 53)).putObj kb (.map es1 cl1):=Z15 w3.drew hkl3 _ _
   clear hfin hxc hfil hown0 hown3 hx3 hfr3 hs0 hsn3 hS4 e1 e4 f1 f2 hownA hx12 hbA hrow hrz2 hrz k2 hb0 HSN HXB
   have hS0:(fun W:World=>W.cell? ⟨w.heap.size,0,none⟩=some (.pointer (some ⟨bb,0,none⟩))∧W.cell? ⟨bb,2,none⟩=some (.map (some kb))∧W.cell? ⟨wr.heap.size,0,none⟩=some (.int .i64 xn)∧W.cell? ⟨wr.heap.size,1,none⟩=some (.int .i64 xr)∧W.cell? ⟨wr.heap.size,2,none⟩=some (.int .i64 un)∧W.cell? ⟨wr.heap.size,3,none⟩=some (.int .i64 ur)∧W.cell? ⟨wr.heap.size,4,none⟩=some (.string xk)) w3.drew:=⟨c0k,d2k,y0,y1,y2,y3,y4⟩
   have hSp:(fun W:World=>W.cell? ⟨w.heap.size,0,none⟩=some (.pointer (some ⟨bb,0,none⟩))∧W.cell? ⟨bb,2,none⟩=some (.map (some kb))∧W.cell? ⟨wr.heap.size,0,none⟩=some (.int .i64 xn)∧W.cell? ⟨wr.heap.size,1,none⟩=some (.int .i64 xr)∧W.cell? ⟨wr.heap.size,2,none⟩=some (.int .i64 un)∧W.cell? ⟨wr.heap.size,3,none⟩=some (.int .i64 ur)∧W.cell? ⟨wr.heap.size,4,none⟩=some (.string xk)) (w3.drew.putObj kb (.map es1 cl1)):=⟨(HSK.out _ _ _ c0k).1,(HSK.out _ _ _ d2k).1,(HSK.out _ _ _ y0).1,(HSK.out _ _ _ y1).1,(HSK.out _ _ _ y2).1,(HSK.out _ _ _ y3).1,(HSK.out _ _ _ y4).1⟩
   have hSq:(fun W:World=>W.cell? ⟨w.heap.size,0,none⟩=some (.pointer (some ⟨bb,0,none⟩))∧W.cell? ⟨bb,2,none⟩=some (.map (some kb))∧W.cell? ⟨wr.heap.size,0,none⟩=some (.int .i64 xn)∧W.cell? ⟨wr.heap.size,1,none⟩=some (.int .i64 xr)∧W.cell? ⟨wr.heap.size,2,none⟩=some (.int .i64 un)∧W.cell? ⟨wr.heap.size,3,none⟩=some (.int .i64 ur)∧W.cell? ⟨wr.heap.size,4,none⟩=some (.string xk)) ((w3.drew.alloc (.cells #[.int .i64 xn,.int .i64 xr,.int .i64 un,.int .i64 ur,.string xk] 53)).putObj kb (.map es1 cl1)):=⟨(HSK.out _ _ _ c0k).2,(HSK.out _ _ _ d2k).2,(HSK.out _ _ _ y0).2,(HSK.out _ _ _ y1).2,(HSK.out _ _ _ y2).2,(HSK.out _ _ _ y3).2,(HSK.out _ _ _ y4).2⟩
   have hSa:(fun W:World=>W.cell? ⟨w.heap.size,0,none⟩=some (.pointer (some ⟨bb,0,none⟩))∧W.cell? ⟨bb,2,none⟩=some (.map (some kb))∧W.cell? ⟨wr.heap.size,0,none⟩=some (.int .i64 xn)∧W.cell? ⟨wr.heap.size,1,none⟩=some (.int .i64 xr)∧W.cell? ⟨wr.heap.size,2,none⟩=some (.int .i64 un)∧W.cell? ⟨wr.heap.size,3,none⟩=some (.int .i64 ur)∧W.cell? ⟨wr.heap.size,4,none⟩=some (.string xk)) (w3.drew.alloc (.cells #[.int .i64 xn,.int .i64 xr,.int .i64 un,.int .i64 ur,.string xk] 53)):=⟨Z1 c0k _,Z1 d2k _,Z1 y0 _,Z1 y1 _,Z1 y2 _,Z1 y3 _,Z1 y4 _⟩
   refine Zf (fun W:World=>W.cell? ⟨w.heap.size,0,none⟩=some (.pointer (some ⟨bb,0,none⟩))∧W.cell? ⟨bb,2,none⟩=some (.map (some kb))∧W.cell? ⟨wr.heap.size,0,none⟩=some (.int .i64 xn)∧W.cell? ⟨wr.heap.size,1,none⟩=some (.int .i64 xr)∧W.cell? ⟨wr.heap.size,2,none⟩=some (.int .i64 un)∧W.cell? ⟨wr.heap.size,3,none⟩=some (.int .i64 ur)∧W.cell? ⟨wr.heap.size,4,none⟩=some (.string xk)) (fun i=>i == 12) (by kernel_rfl) ?_
   refine JR 0 29 _ rfl rfl hS0 (fun W hW=>by obtain ⟨q0,q1,q2,q3,q4,q5,q6⟩:=hW;go_simp;try rfl) ?_
   try simp only[Ja]
   refine JR 1 30 _ rfl rfl hS0 (fun W hW=>by obtain ⟨q0,q1,q2,q3,q4,q5,q6⟩:=hW;go_simp;try rfl) ?_
   try simp only[Ja]
   refine JR 2 31 _ rfl rfl hS0 (fun W hW=>by obtain ⟨q0,q1,q2,q3,q4,q5,q6⟩:=hW;go_simp;try rfl) ?_
   try simp only[Ja]
   refine JR 3 32 (.map (some kb)) rfl rfl hS0 (fun W hW=>by obtain ⟨q0,q1,q2,q3,q4,q5,q6⟩:=hW;go_simp;try rfl) ?_
   try simp only[Ja]
   refine JR 4 33 _ rfl rfl hS0 (fun W hW=>by obtain ⟨q0,q1,q2,q3,q4,q5,q6⟩:=hW;go_simp;try rfl) ?_
   try simp only[Ja]
   refine JR 5 34 (.agg #[.int .i64 un,.int .i64 ur]) rfl rfl hS0 (fun W hW=>by obtain ⟨q0,q1,q2,q3,q4,q5,q6⟩:=hW;go_simp;try rfl) ?_
   try simp only[Ja]
   refine JR 6 36 (.agg #[.int .i64 xn,.int .i64 xr,.int .i64 un,.int .i64 ur,.string xk]) rfl rfl hS0 (fun W hW=>by obtain ⟨q0,q1,q2,q3,q4,q5,q6⟩:=hW;go_simp;try rfl) ?_
   try simp only[Ja]
   refine Zl (i:=7) (d:=some 37) (v:=.slice (some ⟨w3.heap.size,0,none⟩) 1 1) (w':=w3.drew.alloc (.cells #[.int .i64 xn,.int .i64 xr,.int .i64 un,.int .i64 ur,.string xk] 53)) (by kernel_rfl) rfl rfl (by rfl) (by go_simp;try rfl) (fun _=>hSa) ?_
   try simp only[Ja]
   refine Zl (i:=8) (d:=some 38) (v:=.tuple #[.slice sa sm sc,.int .i64 st]) (w':=(w3.drew.alloc (.cells #[.int .i64 xn,.int .i64 xr,.int .i64 un,.int .i64 ur,.string xk] 53)).putObj kb (.map es1 cl1)) (by kernel_rfl) rfl rfl (by rfl) (by have r4:(Instr.mapEntry 103 (.map (some kb)) (.agg #[.int .i64 un,.int .i64 ur])).run Tryz.prog (w3.alloc (.cells #[.int .i64 xn,.int .i64 xr,.int .i64 un,.int .i64 ur,.string xk] 53)).drew=.ok (.tuple #[.slice sa sm sc,.int .i64 st]) ((w3.alloc (.cells #[.int .i64 xn,.int .i64 xr,.int .i64 un,.int .i64 ur,.string xk] 53)).drew.putObj kb (.map es1 cl1)):=r2;go_simp;try rw[r4]) (fun _=>hSq) ?_
   try simp only[Ja]
   refine J0 9 35 (.slice sa sm sc) hSq ?_
   try simp only[Ja]
   refine J0 11 40 (.int .i64 st) hSq ?_
   try simp only[Ja]
   refine Zl (i:=10) (d:=some 39) (v:=.slice s3.a s3.n s3.cap) (w':=w4) (by kernel_rfl) rfl rfl (by rfl) (Yp rfl rfl rfl hr3) (fun _=>HS4.out) ?_
   try simp only[Ja]
   refine Zh (i:=12) (d:=none) (w':=w4.putObj kb (.map es2 cl2)) (by kernel_rfl) rfl rfl (by rfl) (by go_simp;try rw[r3]) (fun h=>by cases h) ?_
   try simp only[Ja]
   refine Zd (by kernel_rfl) ?_ _
   clear hS0 hSp hSq hSa r1 r2 r3 hcom HSK HS4 hr3
   go_wp2_with fail
   go_roundg (A.length - (k+1))
   case measure=>rw[HG.out];omega
   case rel=>exact ⟨k+1,Zw lk ⟨un,ur⟩ s3,rfl,hlt,by go_num,HSN3,HFIN,HXC⟩
  ·obtain rfl:k=A.length:=by omega
   have hkk:¬ (A.length:Int)<(A.length:Int):=by omega
   rw[List.take_length] at HS HK
   obtain ⟨wr1,hrange,hit,hbr,hzr⟩:=(HMP.out.ext HX.out (by omega)).range (P:=Tryz.prog) Sb
   have c0k:=HX.out.keep c0 (by omega)
   have d1k:=HX.out.keep d1 (by omega)
   have HS2:=Jh (HS.out.ext (Ext.of_below (S:=fun _=>False) hbr) (fun f=>f))
   have HK2:=Jh (HK.out.ext (Ext.of_below (S:=fun _=>False) hbr) (fun f=>f) (fun _ _ f=>f))
   have HX2:=Jh (HX.out.andThen (Ext.of_below (S:=fun _=>False) hbr) (fun _ _ f=>f.elim))
   have HIT:=Lib.hid hit
   have HGT:=Jh (Gth.start HND.out)
   obtain ⟨r,hr⟩:=Je (wr.heap.size)
   rw[hr] at hrange HIT hzr
   have hrB:w.heap.size+3≤r:=by omega
   clear hlt hk hit hbr HS HK HX hr
   go_wp2_with fail
   clear hrange
   go_loopg [53] ps.length (fun g rv wx=>∃ (left done:List (St × Spn)) (cur:Option (St × Spn)) (C:List Ch) (lk:List (St × Sl)),g=left.length∧Hid ((done++left).Perm ps)∧Hid (ZL St.val Spn.val wx r pb ps left cur)∧Hid (Gth A (fun s=>s∈done.map (·.1)) C)∧C.length≤A.length+done.length∧done.length+left.length=ps.length∧Hid (XC wx (w.heap.size+1) (A.length+1+done.length) C)∧Hid (KM (w.heap.size+3) wx kb (YH C) lk)∧Hid (Ext (fun i=>i=w.heap.size+1∨i=kb) w1 wx))
   case atStart=>exact ⟨ps,[],none,A,lk,rfl,Jh (List.Perm.refl _),HIT,Jh (HGT.out.mono (fun s=>by simp)),by omega,by simp,HS2,HK2,HX2⟩
   case round =>
    clear HIT HGT HS2 HK2 HX2
    obtain ⟨left,done,cur,C,lk,hg,HP,HI,HT,hC,hdl,HS,HK,HX⟩:=hrel
    have HG:=Lib.hid hg
    have hxz:=HX.out.size
    have hrI:r<wr.heap.size:=HI.out.lt.1
    clear hg
    rcases HI.out.next (P:=Tryz.prog) (by omega) with ⟨hnil,hnx⟩|⟨i,p,w2,hip,hnx,hiter2,hx2,hs2⟩
    ·subst hnil
     have hdn:done.Perm ps:=by have:=HP.out;rwa [List.append_nil] at this
     have HT2:Hid (Gth A (fun s=>s∈ps.map (·.1)) C):=Jh (HT.out.mono (fun s=>(hdn.map _).mem_iff))
     have hdl2:done.length=ps.length:=hdn.length_eq
     rw[hdl2] at HS hC
     clear hdn HP HI HT hdl hdl2
     go_wp2_with fail
     clear hnx
     go_loopg [57] A.length (fun g iv wx=>∃ (k:Nat) (C:List Ch) (lk:List (St × Sl)),g=A.length - k∧k≤A.length∧iv=.int .i64 k∧Hid (Gth A (fun s=>s∈ps.map (·.1)∨∃ d∈A.take k,d.under=s) C)∧C.length≤A.length+ps.length+k∧Hid (XC wx (w.heap.size+1) (A.length+1+ps.length+k) C)∧Hid (KM (w.heap.size+3) wx kb (YH C) lk)∧Hid (Ext (fun i=>i=w.heap.size+1∨i=kb) w1 wx))
     case atStart=>exact ⟨0,C,lk,rfl,Nat.zero_le _,rfl,Jh (HT2.out.mono (fun s=>by simp)),by omega,HS,HK,HX⟩
     case round =>
      clear HT2 HS HK HX hC hxz hrI
      obtain ⟨k,C,lk,hg,hk,rfl,HT,hC,HS,HK,HX⟩:=hrel
      have HG:=Lib.hid hg
      have hxz:=HX.out.size
      clear hg
      by_cases hlt:k<A.length
      ·obtain ⟨x,hx⟩:∃ x,A[k]?=some x:=⟨_,List.getElem?_eq_getElem hlt⟩
       obtain ⟨ba,oa,ca1,e1,hcs⟩:=HV1.out.dcells (by intro e;rw[e] at hlt;simp at hlt)
       cases e1
       obtain ⟨x0,x1,x2,x3,x4⟩:=hcs k x hx
       have hba:ba<w.heap.size+3:=by have:=Zj x0;omega
       have hbn:¬ (ba=w.heap.size+1∨ba=kb):=fun e=>by
        rcases e with e|e
        ·obtain ⟨ls,hls,_⟩:=SN1.out
         obtain ⟨_,es,cl,h,_⟩:=hls
         simp only[World.cell?,e,h] at x0
         cases x0
        ·obtain ⟨_,es,cl,h,_⟩:=KM1.out.map
         simp only[World.cell?,e,h] at x0
         cases x0
       replace x0:=HX.out.keep x0 hbn
       replace x1:=HX.out.keep x1 hbn
       replace x2:=HX.out.keep x2 hbn
       replace x3:=HX.out.keep x3 hbn
       replace x4:=HX.out.keep x4 hbn
       have c0k:=HX.out.keep c0 (by omega)
       have c2k:=HX.out.keep c2 (by omega)
       have d2k:=HX.out.keep d2 (by omega)
       obtain ⟨⟨xn,xr⟩,⟨un,ur⟩,xk⟩:=x
       simp only at x0 x1 x2 x3 x4
       have HX0:=Lib.hid hx
       clear hx hcs
       have hkk:(k:Int)<(A.length:Int):=by omega
       have hk0:(0:Int)≤(k:Int):=by omega
       have hza:(wr.alloc (.cells #[.int .i64 xn,.int .i64 xr,.int .i64 un,.int .i64 ur,.string xk] 53)).heap.size=wr.heap.size+1:=by simp
       have HMA:=Jh (RQ (w.heap.size+3) (w.heap.size+2) (w.heap.size+1) w.heap.size bb kb (A.length+1+ps.length+k) C lk un ur (wr.alloc (.cells #[.int .i64 xn,.int .i64 xr,.int .i64 un,.int .i64 ur,.string xk] 53)) (Z1 c2k _) (Z1 c0k _) (Z1 d2k _) (HS.out.ext ((Ext.refl (fun _=>False) _).alloc _) (fun f=>f)) (HK.out.ext ((Ext.refl (fun _=>False) _).alloc _) (fun f=>f) (fun _ _ f=>f)) (by omega) (fun h=>by have:=h.1;omega) (fun h=>by have:=h.1;omega) (by omega) (by omega) (by omega))
       have HXA:Hid (Ext (fun i=>i=w.heap.size+1∨i=kb) w1 (wr.alloc (.cells #[.int .i64 xn,.int .i64 xr,.int .i64 un,.int .i64 ur,.string xk] 53))):=Jh (HX.out.alloc _)
       clear HS HK HX c0k c2k d2k
       go_wp2_with fail
       refine HMA.out.mono ?_
       rintro e w5 ⟨rfl,hs5,⟨lk5,hk5⟩,hx5⟩
       have hml:=VL C ⟨un,ur⟩
       have HT5:Hid (Gth A (fun s=>s∈ps.map (·.1)∨∃ d∈A.take (k+1),d.under=s) (YC C ⟨un,ur⟩)):=Jh ((HT.out.more ⟨un,ur⟩).mono (fun s=>by
        rw[List.take_add_one,HX0.out]
        constructor
        ·rintro ((h|⟨d,hd,e⟩)|rfl)
         ·exact .inl h
         ·exact .inr ⟨d,List.mem_append_left _ hd,e⟩
         ·exact .inr ⟨⟨⟨xn,xr⟩,⟨un,ur⟩,xk⟩,by simp,rfl⟩
        ·rintro (h|⟨d,hd,e⟩)
         ·exact .inl (.inl h)
         ·rcases List.mem_append.1 hd with hd|hd
          ·exact .inl (.inr ⟨d,hd,e⟩)
          ·simp at hd;subst hd;exact .inr e.symm))
       have HX5:Hid (Ext (fun i=>i=w.heap.size+1∨i=kb) w1 w5):=Jh (HXA.out.andThen hx5 (fun i hi e=>by
        rcases e with e|e|e
        ·exact .inl e
        ·exact .inr e
        ·have:=e.1;omega))
       have HS5:=Lib.hid hs5
       have HK5:=Lib.hid hk5
       clear hs5 hk5 hx5 HMA HXA x0 x1 x2 x3 x4
       go_wp2_with fail
       go_roundg (A.length - (k+1))
       case measure=>rw[HG.out];omega
       case rel=>exact ⟨k+1,YC C ⟨un,ur⟩,lk5,rfl,hlt,by go_num,HT5,by omega,HS5,HK5,HX5⟩
      ·obtain rfl:k=A.length:=by omega
       have hkk:¬ (A.length:Int)<(A.length:Int):=by omega
       rw[List.take_length] at HT
       obtain ⟨wr1,hrange,hit,hbr,hzr⟩:=HK.out.map.range (P:=Tryz.prog) WS
       have c0k:=HX.out.keep c0 (by omega)
       have d2k:=HX.out.keep d2 (by omega)
       have HK2:=Jh (HK.out.ext (Ext.of_below (S:=fun _=>False) hbr) (fun f=>f) (fun _ _ f=>f))
       have HX2:=Jh (HX.out.andThen (Ext.of_below (S:=fun _=>False) hbr) (fun _ _ f=>f.elim))
       have HIT:=Lib.hid hit
       obtain ⟨r2,hr⟩:∃ r,wr.heap.size=r:=⟨_,rfl⟩
       rw[hr] at hrange HIT hzr
       have hrB2:w.heap.size+3≤r2:=by omega
       clear hlt hk hit hbr HS HK HX hr
       go_wp2_with fail
       clear hrange
       go_loopg [75] lk.length (fun g rv wx=>∃ (left done:List (St × Sl)) (cur:Option (St × Sl)) (F:St→List Ch),g=left.length∧Hid ((done++left).Perm lk)∧Hid (ZL St.val Sl.val wx r2 kb lk left cur)∧Hid (KM (w.heap.size+3) wx kb F lk)∧Hid (∀ u,(F u).Perm (YH C u))∧Hid (∀ u,(∀ p∈left,p.1≠u)→(F u).Pairwise YA)∧Hid (Ext (fun i=>i=w.heap.size+1∨i=kb) w1 wx))
       case atStart=>exact ⟨lk,[],none,YH C,rfl,Jh (List.Perm.refl _),HIT,HK2,Jh (fun u=>List.Perm.refl _),Jh (fun u hu=>by
        have:Z3 lk u=none:=by
         cases e:Z3 lk u with
         | none=>rfl
         | some s=>exact absurd rfl (hu _ (Z3c e))
        rw[HK2.out.non u this]
        exact List.Pairwise.nil),HX2⟩
       case round =>
        clear HIT HK2 HX2 hxz
        obtain ⟨left,done,cur,F,hg,HP,HI,HK,HF,HO,HX⟩:=hrel
        have HG:=Lib.hid hg
        have hxz:=HX.out.size
        have hrI:r2<wr.heap.size:=HI.out.lt.1
        clear hg
        have hkl2:=HK.out.map.lt
        rcases HI.out.next (P:=Tryz.prog) (by omega) with ⟨hnil,hnx⟩|⟨i,p,w2,hip,hnx,hiter2,hx2,hs2⟩
        ·subst hnil
         have HFIN:Hid (Sq kb A ps w (.returned (.tuple #[])) wr):=Lib.hid ⟨rfl,C,F,lk,HT.out,HK.out.le (by omega),fun u=>⟨HF.out u,HO.out u (by simp)⟩,?_⟩
         rotate_left
         ·refine ⟨HX.out.os.trans HB1.out.os,HX.out.tape.trans HB1.out.tape,HX.out.output.trans HB1.out.output,Nat.le_trans HB1.out.size HX.out.size,fun j hj hn=>?_⟩
          exact (HX.out.block j (by omega) (fun e=>by rcases e with e|e;omega;exact hn e)).trans (HB1.out.block j hj)
         clear HX HK HF HO HI HP hrI
         go_wp2_with fail
         go_end0
         exact HFIN.out
        ·obtain ⟨⟨pn,pr⟩,⟨sa,sm,sc⟩⟩:=p
         simp only[St.val,Sl.val] at hnx
         have hpl:(((⟨pn,pr⟩,⟨sa,sm,sc⟩):St × Sl))∈lk:=HP.out.mem_iff.1 (List.mem_append_right _ (List.mem_of_getElem? hip))
         have hag:Z3 lk ⟨pn,pr⟩=some ⟨sa,sm,sc⟩:=Rx HK.out.map.1 hpl
         have hen:∀ W,ZL St.val Sl.val W r2 kb lk (left.eraseIdx i) (some (⟨pn,pr⟩,⟨sa,sm,sc⟩))→(Instr.entry (.pointer (some ⟨r2,0,none⟩))).run Tryz.prog W=.ok (.tuple #[.agg #[.int .i64 pn,.int .i64 pr],.slice sa sm sc]) W:=fun W hW=>hW.entry
         have hen2:=hen w2 hiter2
         have k2:=HK.out.ext hx2 (by omega) (fun b hb e=>by
          obtain ⟨_,cu,hc⟩:=hb
          obtain ⟨_,es,cl,sn,_,hri,_⟩:=HI.out
          rw[e,hri] at hc
          cases hc)
         have hro:=k2.row _ _ hag
         have hrl:(F ⟨pn,pr⟩).length≤C.length:=by have:=(HF.out ⟨pn,pr⟩).length_eq;have:=Tv C ⟨pn,pr⟩;omega
         have HSO:=Jh (Qy hro (by omega))
         have hbl2:=fun b (hb:(Value.slice sa sm sc).ownBlock=some b)=>k2.blk hag hb
         have hiB:¬ ((Value.slice sa sm sc).ownBlock=some r2):=fun e=>by
          obtain ⟨_,cu,hc⟩:=(hbl2 _ e).1
          obtain ⟨_,es,cl,sn,_,hri,_⟩:=hiter2
          rw[hri] at hc
          cases hc
         have hX2:Ext (fun i=>i=w.heap.size+1∨i=kb) w1 w2:=HX.out.andThen hx2 (fun i hi e=>by omega)
         have hK2:=Lib.hid k2
         have HI2:=Lib.hid hiter2
         have HX2:=Lib.hid hX2
         have HIP:=Lib.hid hip
         have hbl3:∀ b,(Value.slice sa sm sc).ownBlock=some b→w.heap.size+3≤b∧b≠kb:=fun b hb=>⟨(hbl2 b hb).1.1,(hbl2 b hb).2⟩
         have HBL:=Lib.hid hbl3
         have HR2:=Lib.hid hiB
         have hx2s:=hx2.size
         clear hen hro hbl2 hbl3 hiB hX2 k2 hiter2 hip hpl hx2 HX HI HK
         go_wp2_with fail
         refine HSO.out.mono ?_
         rintro e w5 ⟨rfl,l5,hp5,ho5,hown5,hx5⟩
         have HK5:=Jh (hK2.out.sort hag hx5 hown5)
         have HI5:=Jh (HI2.out.ext hx5 HR2.out (fun e=>(HBL.out _ e).2 rfl))
         have HX5:=Jh (HX2.out.andThen hx5 (fun i hi e=>by have:=(HBL.out _ e).1;omega))
         have hpf:l5.Perm (YH C ⟨pn,pr⟩):=hp5.trans (HF.out ⟨pn,pr⟩)
         have hnd5:l5.Pairwise (fun a b=>a.block≠b.block):=hpf.symm.pairwise (HT.out.nodup.filter _) (fun h e=>h e.symm)
         have hso5:l5.Pairwise YA:=(List.pairwise_and_iff.2 ⟨ho5,hnd5⟩).imp (fun {a b} h=>by
          obtain ⟨h1,h2⟩:=h
          simp only[ltOf,decide_eq_false_iff_not,Ww] at h1
          rcases Te a b with t|t|t
          ·exact t
          ·exact absurd t h2
          ·exact absurd t h1)
         have HF5:Hid (∀ u,(We F ⟨pn,pr⟩ l5 u).Perm (YH C u)):=Jh (fun u=>by
          unfold We
          split
          ·rename_i e;subst e;exact hpf
          ·exact HF.out u)
         have HP5:Hid ((((done++[((⟨pn,pr⟩,⟨sa,sm,sc⟩):St × Sl)]))++left.eraseIdx i).Perm lk):=Jh (by
          rw[List.append_assoc]
          exact (List.Perm.append_left done (WO HIP.out).symm).trans HP.out)
         have HO5:Hid (∀ u,(∀ p∈left.eraseIdx i,p.1≠u)→(We F ⟨pn,pr⟩ l5 u).Pairwise YA):=Jh (fun u hu=>by
          unfold We
          split
          ·exact hso5
          ·rename_i hne2
           refine HO.out u (fun p hp e=>?_)
           rcases List.mem_cons.1 ((WO HIP.out).mem_iff.1 hp) with h|h
           ·rw[h] at e;exact hne2 e.symm
           ·exact hu p h e)
         have hml:(left.eraseIdx i).length<left.length:=by
          rw[List.length_eraseIdx]
          have:=(List.getElem?_eq_some_iff.1 HIP.out).1
          rw[if_pos this];omega
         clear hp5 ho5 hown5 hx5 hpf hnd5 hso5 HSO
         go_wp2_with fail
         go_roundg (left.eraseIdx i).length
         case measure=>rw[HG.out];exact hml
         case rel=>exact ⟨left.eraseIdx i,_,_,_,rfl,HP5,HI5,HK5,HF5,HO5,HX5⟩
    ·obtain ⟨⟨pn,pr⟩,⟨⟨sn,sr⟩,slo,shi⟩⟩:=p
     simp only[St.val,Spn.val] at hnx
     have hen:∀ W,ZL St.val Spn.val W r pb ps (left.eraseIdx i) (some (⟨pn,pr⟩,⟨⟨sn,sr⟩,slo,shi⟩))→(Instr.entry (.pointer (some ⟨r,0,none⟩))).run Tryz.prog W=.ok (.tuple #[.agg #[.int .i64 pn,.int .i64 pr],.agg #[.int .i64 sn,.int .i64 sr,.int .i64 slo,.int .i64 shi]]) W:=fun W hW=>hW.entry
     have hen2:=hen w2 hiter2
     have k2:=HK.out.ext hx2 (by omega) (fun b hb e=>by
      obtain ⟨_,cu,hc⟩:=hb
      obtain ⟨_,es,cl,sn,_,hri,_⟩:=HI.out
      rw[e,hri] at hc
      cases hc)
     have s2:=HS.out.ext hx2 (by omega)
     have hX2:Ext (fun i=>i=w.heap.size+1∨i=kb) w1 w2:=HX.out.andThen hx2 (fun i hi e=>by omega)
     have c0k:=hX2.keep c0 (by omega)
     have c2k:=hX2.keep c2 (by omega)
     have d2k:=hX2.keep d2 (by omega)
     have HI2:=Jh (hiter2.alloc (.cells #[.int .i64 pn,.int .i64 pr] 23))
     have HIP:=Lib.hid hip
     have hx2s:=hx2.size
     have hza:(w2.alloc (.cells #[.int .i64 pn,.int .i64 pr] 23)).heap.size=w2.heap.size+1:=by simp
     have HMA:=Jh (RQ (w.heap.size+3) (w.heap.size+2) (w.heap.size+1) w.heap.size bb kb (A.length+1+done.length) C lk pn pr (w2.alloc (.cells #[.int .i64 pn,.int .i64 pr] 23)) (Z1 c2k _) (Z1 c0k _) (Z1 d2k _) (s2.ext ((Ext.refl (fun _=>False) _).alloc _) (fun f=>f)) (k2.ext ((Ext.refl (fun _=>False) _).alloc _) (fun f=>f) (fun _ _ f=>f)) (by omega) (fun h=>by have:=h.1;omega) (fun h=>by have:=h.1;omega) (by omega) (by omega) (by omega))
     have HXA:Hid (Ext (fun i=>i=w.heap.size+1∨i=kb) w1 (w2.alloc (.cells #[.int .i64 pn,.int .i64 pr] 23))):=Jh (hX2.alloc _)
     have hml:(left.eraseIdx i).length+1=left.length:=by
      rw[List.length_eraseIdx]
      have:=(List.getElem?_eq_some_iff.1 HIP.out).1
      rw[if_pos this];omega
     clear hen k2 s2 hX2 c0k c2k d2k hiter2 hip hx2 HX HI HK HS
     go_wp2_with fail
     refine HMA.out.mono ?_
     rintro e w5 ⟨rfl,hs5,⟨lk5,hk5⟩,hx5⟩
     have hmC:=VL C ⟨pn,pr⟩
     have HT5:Hid (Gth A (fun s=>s∈(done++[((⟨pn,pr⟩,⟨⟨sn,sr⟩,slo,shi⟩):St × Spn)]).map (·.1)) (YC C ⟨pn,pr⟩)):=Jh ((HT.out.more ⟨pn,pr⟩).mono (fun s=>by simp))
     have HX5:Hid (Ext (fun i=>i=w.heap.size+1∨i=kb) w1 w5):=Jh (HXA.out.andThen hx5 (fun i hi e=>by
      rcases e with e|e|e
      ·exact .inl e
      ·exact .inr e
      ·have:=e.1;omega))
     have HI5:=Jh (HI2.out.ext hx5 (fun e=>by
      rcases e with e|e|⟨_,cu,hc⟩
      ·omega
      ·omega
      ·obtain ⟨_,es,cl,sn,_,hri,_⟩:=HI2.out
       rw[hri] at hc
       cases hc) (fun e=>by
      rcases e with e|e|e
      ·omega
      ·omega
      ·have:=e.1;omega))
     have HP5:Hid ((((done++[((⟨pn,pr⟩,⟨⟨sn,sr⟩,slo,shi⟩):St × Spn)]))++left.eraseIdx i).Perm ps):=Jh (by
      rw[List.append_assoc]
      exact (List.Perm.append_left done (WO HIP.out).symm).trans HP.out)
     have HS5:=Lib.hid hs5
     have HK5:=Lib.hid hk5
     have hdn:(done++[((⟨pn,pr⟩,⟨⟨sn,sr⟩,slo,shi⟩):St × Spn)]).length=done.length+1:=by simp
     clear hs5 hk5 hx5 HMA HXA
     go_wp2_with fail
     go_roundg (left.eraseIdx i).length
     case measure=>rw[HG.out];omega
     case rel=>exact ⟨left.eraseIdx i,_,_,_,lk5,rfl,HP5,HI5,HT5,by rw[hdn];omega,by rw[hdn];omega,by rw[hdn];exact HS5,HK5,HX5⟩
theorem Zx.monoL {α:Type} {D D':Nat→Prop} {ea:α→List Value} {k:Nat} {W:World} {v:Value} {l:List α} (h:Zx D ea k W v l) (hk:∀ x,0<(ea x).length) (hd:∀ b,D b→b<W.heap.size→D' b):Zx D' ea k W v l:=by
 refine ⟨h.1,fun b o n c e hl=>hd b (h.2 b o n c e hl) ?_⟩
 obtain ⟨a,cap,rfl,h2,h3,h4⟩:=h.1
 obtain ⟨b',off,rfl,h6⟩:=h4 hl
 cases e
 obtain ⟨x,hx⟩:∃ x,l[0]?=some x:=by
  cases l with
  | nil=>exact absurd rfl hl
  | cons x r=>exact ⟨x,rfl⟩
 exact Zj (h6 0 x hx 0 _ (List.getElem?_eq_getElem (hk x)))
theorem YJ.monoL {D D':Nat→Prop} {W:World} {u:Value} {P:Pcs} (h:YJ D W u P) (hd:∀ b,D b→b<W.heap.size→D' b):YJ D' W u P:=by
 obtain ⟨vs,h1,h2,h3⟩:=h
 refine ⟨vs,h1.monoL (fun _=>Nat.zero_lt_succ 1) hd,h2,fun j x hj=>?_⟩
 obtain ⟨al,h4,h5⟩:=h3 j x hj
 exact ⟨al,h4,h5.monoL (fun _=>Nat.zero_lt_succ 1) hd⟩
theorem Zv.monoL {D D':Nat→Prop} {W:World} {x:NdV} {n:Nd} (h:Zv D W x n) (hd:∀ b,D b→b<W.heap.size→D' b):Zv D' W x n:=by
 induction h with
 | mk x al P vs ks h1 h2 h3 h4 h5 ih=>exact .mk x al P vs ks (h1.monoL (fun _=>Nat.zero_lt_succ 1) hd) (h2.monoL hd) (h3.monoL (fun _=>Nat.zero_lt_succ 5) hd) h4 ih
theorem Zc.monoL {D D':Nat→Prop} {W:World} {vs:List NdV} {ks:List Nd} (h:Zc D W vs ks) (hd:∀ b,D b→b<W.heap.size→D' b):Zc D' W vs ks:=⟨h.1,fun i y n h1 h2=>(h.2 i y n h1 h2).monoL hd⟩
def XQ (W:World) (L:List Atr) (e:Ending) (w':World):Prop:=∃ v,e=.returned v∧Own Atr.cells 2 73 W.heap.size w' v L∧L.length≤1000000∧Below W.heap.size W w'
structure Bl where
 bb:Nat
 pb:Nat
 kb:Nat
 va:Option Addr
 ca:Nat
 vb:Option Addr
 cb:Nat
 gv:Value
 l:List El
 ms:List OpD
structure BIs (W:World) (b:Bl) (V:Vw):Prop where
 c0:W.cell? ⟨b.bb,0,none⟩=some (.slice b.va b.l.length b.ca)
 c1:W.cell? ⟨b.bb,1,none⟩=some (.map (some b.pb))
 c2:W.cell? ⟨b.bb,2,none⟩=some (.map (some b.kb))
 c3:W.cell? ⟨b.bb,3,none⟩=some b.gv
 c4:W.cell? ⟨b.bb,4,none⟩=some (.slice b.vb b.ms.length b.cb)
 el:Z5 El.cells 4 W (.slice b.va b.l.length b.ca) b.l
 op:Z5 OpD.cells 26 W (.slice b.vb b.ms.length b.cb) b.ms
 ln:b.l.length≤1000∧b.ms.length≤1000
 pm:∃ ps,Z6 St.val Spn.val W b.pb ps∧∀ u,Z3 ps u=YD b.l u
 km:∃ lk,Z6 St.val Sl.val W b.kb lk∧(∀ u s,Z3 lk u=some s→Z5 Ch.cells 5 W s.val (Yl V.H u))∧∀ u,Z3 lk u=none→Yl V.H u=[]
 rg:∀ W',Below W.heap.size W W'→∀ u:St,Calls Tryz.prog 44 #[b.gv,.agg #[.int .i64 u.n,.int .i64 u.r]] W' fun e w'=>XQ W' (V.regs u) e w'
 lv:∀ u,V.live u=(YD b.l u).isSome
 tx:∀ u s,YD b.l u=some s→V.txt u=Yb b.l b.ms s.lo s.hi
theorem BIs.below {W W':World} {b:Bl} {V:Vw} (h:BIs W b V) (hb:Below W.heap.size W W'):BIs W' b V:=by
 obtain ⟨ps,p1,p2⟩:=h.pm
 obtain ⟨lk,k1,k2,k3⟩:=h.km
 exact ⟨Z0 hb h.c0,Z0 hb h.c1,Z0 hb h.c2,Z0 hb h.c3,Z0 hb h.c4,h.el.below hb,h.op.below hb,h.ln,⟨ps,p1.below hb,p2⟩,⟨lk,k1.below hb,fun u s hs=>(k2 u s hs).below hb,k3⟩,fun W2 h2 u=>h.rg W2 (hb.trans (h2.mono hb.size)) u,h.lv,h.tx⟩
def Vq (V:Vw) (n:Nat) (u:St) (W:World) (e:Ending) (w':World):Prop :=
 ∃ v vs,e=.returned v∧Own NdV.cells 6 28 W.heap.size w' v vs∧Zc (fun k=>W.heap.size≤k∧v.ownBlock≠some k) w' vs (V.row n u)∧Below W.heap.size W w'
def RG (V:Vw) (n:Nat) (u:St) (W:World) (e:Ending) (w':World):Prop :=
 ∃ x:NdV,e=.returned (.agg #[.int .i64 x.id.n,.int .i64 x.id.r,.string x.kind,.slice x.attrs.a x.attrs.n x.attrs.cap,.slice x.text.a x.text.n x.text.cap,.slice x.kids.a x.kids.n x.kids.cap])∧Zv (fun k=>W.heap.size≤k) w' x (V.nd u (V.row n u))∧Below W.heap.size W w'
theorem Xc:(Tryz.prog.info? 28).map (fun i=>(i.zero,i.size,i.bytes))=some (some (.agg #[.int .i64 0,.int .i64 0,.string ⟨#[]⟩,.slice none 0 0,.slice none 0 0,.slice none 0 0]),6,104):=by kernel_rfl
section
variable {P:Program} {w:World} {α:Type} {ea:α→List Value} {k:Nat} {e:TypeId} {base base2:Nat} {v vx:Value} {l ys:List α}
theorem XF (t ty:TypeId) (i:TypeInfo) (z:Value) (bytes:Nat) (ht:P.underlying t=some (.slice e)) (hi:P.info? e=some i) (hz:i.zero=some z)
  (hsize:i.size=k) (hby:i.bytes=bytes) (hzs:z.cells.size=k) (hk0:0<k) (hk:∀ x,(ea x).length=k) (h1:∀ x,∀ u∈ea x,u.oneCell'=true)
  (hown:Own ea k e base w v l) (hx:Own ea k e base2 w vx ys) (h63:l.length+ys.length≤maxLen) (hbytes:(l.length+ys.length)*bytes≤140737488355328) (hbase:base≤w.heap.size) :
  ∃ v' w',(Builtin.append_ #[t,t] ty #[v,vx]).run P w=.ok v' w'∧Own ea k e base w' v' (l++ys)∧Ext (fun b=>v.ownBlock=some b) w w'∧∀ b,v'.ownBlock=some b→v.ownBlock=some b∨w.heap.size≤b:=by
 have hx0:=hx
 obtain ⟨h2,h3⟩:=hx
 rcases h3 with ⟨rfl,hn⟩|⟨g2,c2,cu2,rfl,hb2,hg2,hr2⟩
 ·have hys:ys=[]:=List.eq_nil_of_length_eq_zero hn
  subst hys
  obtain ⟨sa,sc,rfl,hsc,_⟩:=hown.slice hk
  refine ⟨_,w,VC t ty i ht hi sa l.length sc 0 hsc,by rw[List.append_nil];exact hown,Ext.refl _ _,fun b hb=>.inl hb⟩
 ·have hnews:∀ j u,(ys.flatMap ea)[j]?=some u→w.cell? ((⟨g2,0,none⟩:Addr).add j)=some u:=World.ownsRow.cells (g:=g2) hx0 rfl
  have hone:∀ u∈ys.flatMap ea,u.oneCell'=true:=fun u hu=>by
   obtain ⟨x,_,hu⟩:=List.mem_flatMap.1 hu
   exact h1 x u hu
  obtain ⟨v',w',hr,h4,h5,h6⟩:=run_append_own (P:=P) w base t ty e i z k bytes ht hi hz hsize hby hzs hk0 v l.length (l.flatMap ea) hown ⟨g2,0,none⟩ ys.length c2 (ys.flatMap ea) h2 hnews hone h63 hbytes hbase
  refine ⟨v',w',hr,?_,Ext.of_grown h5,?_⟩
  ·unfold Own
   rw[List.length_append,List.flatMap_append]
   exact h4
  ·by_cases hy:ys.length=0
   ·subst hsize
    rcases hown.2 with ⟨rfl,hl0⟩|⟨g,cap,cur,rfl,hbg,hg,hnc,hcm,hcs,htake⟩
    ·rw[h6.2 ⟨rfl,hy⟩]
     intro b hb
     cases hb
    ·have hroom:l.length+ys.length≤cap:=by omega
     have hfit:l.length*i.size+(ys.flatMap ea).length≤cur.size:=by rw[h2,hcs,←Nat.add_mul];exact Nat.mul_le_mul_right _ hroom
     have hr3:=run_append_room (P:=P) w t ty e i ht hi g l.length cap cur hg ⟨g2,0,none⟩ ys.length c2 (ys.flatMap ea) h2 hnews hone hroom hfit
     rw[hr] at hr3
     cases hr3
     intro b hb
     simp[Value.ownBlock] at hb ⊢
     exact .inl hb
   ·exact TB t ty i z k bytes ht hi hz hsize hby v l.length (l.flatMap ea) hown ⟨g2,0,none⟩ ys.length c2 (ys.flatMap ea) h2 hnews hone h63 hbytes (by omega) hr
end
def TO {U:Type} (P:Program) (n gf:Nat) (lb:Array Value) (encs:U→Array Value) (R:World→Nat→Prop) (Rs:Nat→Prop) (xs:List U) (w:World):Prop :=
 ∀ (l:Nat) (I:List U→World→Prop) (W:World),l=w.heap.size+1→W.heap.size=w.heap.size+2→Below w.heap.size w W→(∀ pre W W',I pre W→Ext Rs W W'→I pre W') →
  (∀ pre x W1,I pre W1→pre++[x] <+: xs→YieldAt Fence.wide (n - 1) P l (encs x) W1 fun e W'=>e=.returned (.bool true)∧I (pre++[x]) W'∧Ext (fun k=>k=l∨R W1 k) W1 W')→I [] W →
  CallsIn Fence.wide n P gf (#[.func (.yield l) #[] #[]]++lb) W fun e W'=>(∃ v,e=.returned v)∧I xs W'
theorem Z0G {U:Type} {P:Program} {n:Nat} (h1:1≤n) {g:Operand} {ps:Array Tmp} {assign body:Code} {Q:Exit→Act→World→Prop} {a:Act} {w:World} {gf:Nat} {lb:Array Value}
  (hg:a.eval g=.func (.func gf) #[] lb) (eg:∀ args w,(callFunc gf args).run P w=.ok (.enter gf args) w)
  (encs:U→Array Value) (hps:∀ x,(encs x).size=ps.size) (R:World→Nat→Prop) (Rs:Nat→Prop) (hR:∀ W k,R W k→k≠w.heap.size∧k≠w.heap.size+1) (hRm:∀ W W' k,W'.heap[k]?=W.heap[k]?→R W' k→R W k) (hRs:∀ k,Rs k→k≠w.heap.size∧k≠w.heap.size+1) (xs:List U)
  (J:List U→World→Prop) (hJ:∀ pre W W',J pre W→Ext (fun k=>k=w.heap.size∨k=w.heap.size+1∨Rs k) W W'→J pre W')
  (hseq:TO P (n - 1) gf lb encs R Rs xs w)
  (h00:J [] w)
  (hround:∀ (l:Nat) (pre:List U) (x:U) (W:World),J pre W→pre++[x] <+: xs→w.heap.size+1<W.heap.size →
   assign.wpIn (Fence.wide.inRound l) (n - 1 - 1) P (Exit.then (fun a₁ W₁=>Ext (fun _=>False) W W₁∧J pre W₁∧∀ W₂,J pre W₂→Ext (fun k=>k=w.heap.size+1) W₁ W₂→body.wpIn (Fence.wide.inRound l) (n - 1 - 1) P (QM (R W₂) (J (pre++[x])) W₂) a₁ W₂) (fun _ _ _=>False))
    { tmps:=(ps.zip (encs x)).foldl (fun t (p,v)=>t.setIfInBounds p v) a.tmps,defers:=[] } W)
  (hdone:∀ W,J xs W→W.heap[w.heap.size]?=some (.deferred (some []))→Q .normal { a with defers:={ target:=.collected w.heap.size,args:=#[] } :: a.defers } W) :
  (Code.rangeFunc g ps assign body).wpIn Fence.wide n P Q a w:=by
 refine wpIn_rangeFunc ?_
 intro fn hfn
 obtain ⟨rec,hrec⟩:∃ rec:LoopState→Option Code→Loop,rec=fun st pe=>{ state:=st,pending:=pe,fn,tmps:=a.tmps,params:=ps,assign,body,defers:=w.heap.size }:=⟨_,rfl⟩
 obtain ⟨W1,hW1⟩:=Je ((w.alloc (.deferred (some []))).alloc (.loop (rec .ready none)))
 have hL1:W1.heap[w.heap.size+1]?=some (.loop (rec .ready none)):=by
  rw[←hW1];have:=World.alloc_heap_new (w.alloc (.deferred (some []))) (.loop (rec .ready none));rwa [World.size_alloc] at this
 have hK1:W1.heap[w.heap.size]?=some (.deferred (some [])):=by
  rw[←hW1];exact (Below.heap_alloc _ _ _ (by simp)).trans (World.alloc_heap_new w _)
 have hb1:Below w.heap.size w W1:=by
  rw[←hW1];exact (((Below.refl _ w).alloc (Nat.le_refl _) _).alloc (by simp) _)
 have hJ1:J [] W1:=hJ _ _ _ h00 (Ext.of_below hb1)
 refine ⟨w.heap.size+1,[{ target:=.collected w.heap.size,args:=#[] }],W1,{ target:=.fn (.func gf) lb,args:=#[.func (.yield (w.heap.size+1)) #[] #[]] },W1,gf,
  #[.func (.yield (w.heap.size+1)) #[] #[]]++lb,W1,?_,?_,?_,?_,fun _=>h1,?_⟩
 ·rw[←hW1,hrec];exact run_enterLoop_outer _ _ _ _ _
 ·simp only[resolve,hg]
  simp[go_sem]
 ·intro f' hf';trivial
 ·simp[invoke,go_sem,eg]
 ·refine (hseq (w.heap.size+1)
   (fun pre W=>J pre W∧W.heap[w.heap.size+1]?=some (.loop (rec .ready none))∧W.heap[w.heap.size]?=some (.deferred (some [])))
   W1 rfl (by rw[←hW1];simp) hb1
   (fun pre A B hs hx=>⟨hJ _ _ _ hs.1 (hx.mono (fun _ _ f=>.inr (.inr f))),(hx.block _ (Array.getElem?_eq_some_iff.1 hs.2.1).1 (fun e=>(hRs _ e).2 rfl)).trans hs.2.1,(hx.block _ (Array.getElem?_eq_some_iff.1 hs.2.2).1 (fun e=>(hRs _ e).1 rfl)).trans hs.2.2⟩)
   ?_ ⟨hJ1,hL1,hK1⟩).mono ?_
  ·rintro pre x W ⟨hi,hl,hk⟩ hpx
   have hlt:w.heap.size+1<W.heap.size:=(Array.getElem?_eq_some_iff.1 hl).1
   have hy:=run_yield (P:=P) (args:=encs x) hl (by rw[hrec];exact hps x)
   rw[hrec] at hy
   refine ⟨fn,_,assign,body,hy,roundIn_of_wpIn hfn (wpIn_mono (hround _ pre x W hi hpx hlt) ?_)⟩
   rintro e a1 W' hp
   cases e with
   | normal =>
    obtain ⟨hxa,hja,hbody⟩:=hp
    have hla:=(hxa.block _ hlt id).trans hl
    have hka:=(hxa.block _ (by omega) id).trans hk
    have hlt':w.heap.size+1<W'.heap.size:=(Array.getElem?_eq_some_iff.1 hla).1
    refine ⟨_,run_beginRound hla (by rw[hrec]),?_⟩
    have hl2:(W'.putObj (w.heap.size+1) (.loop { rec .ready none with state:=.busy })).heap[w.heap.size+1]?=some (.loop { rec .ready none with state:=.busy }):=World.putObj_heap_same hlt'
    have hk2:(W'.putObj (w.heap.size+1) (.loop { rec .ready none with state:=.busy })).heap[w.heap.size]?=some (.deferred (some [])):=(World.putObj_heap_other (by omega)).trans hka
    have hx2:Ext (fun k=>k=w.heap.size+1) W' (W'.putObj (w.heap.size+1) (.loop { rec .ready none with state:=.busy })):=Yc _ _ _
    have hmono:∀ {A B:World},Ext (fun k=>k=w.heap.size+1) A B→Ext (fun k=>k=w.heap.size∨k=w.heap.size+1∨Rs k) A B:=fun hx=>hx.mono (fun k _ hk=>.inr (.inl hk))
    refine wpIn_mono (hbody _ (hJ _ _ _ hja (hmono hx2)) hx2) ?_
    have s1:=(Array.getElem?_eq_some_iff.1 hl2).1
    have s0:=(Array.getElem?_eq_some_iff.1 hk2).1
    have nR1:∀ A,¬ R A (w.heap.size+1):=fun A h=>(hR _ _ h).2 rfl
    have nR0:∀ A,¬ R A w.heap.size:=fun A h=>(hR _ _ h).1 rfl
    rintro e a3 W3 hp
    cases e with
    | normal =>
     obtain ⟨hj3,hx3⟩:=hp
     have hl3:=(hx3.block _ s1 (nR1 _)).trans hl2
     have hk3:=(hx3.block _ s0 (nR0 _)).trans hk2
     have hr:=run_endRound (P:=P) none hl3
     rw[hrec] at hr
     refine ⟨_,_,hr,rfl,⟨hJ _ _ _ hj3 (hmono (Yc _ _ _)),?_,(World.putObj_heap_other (by omega)).trans hk3⟩,?_⟩
     ·rw[hrec];exact World.putObj_heap_same (Array.getElem?_eq_some_iff.1 hl3).1
     ·have e12:Ext (fun k=>k=w.heap.size+1) W (W'.putObj (w.heap.size+1) (.loop { rec .ready none with state:=.busy })):=(hxa.mono (fun _ _ f=>f.elim)).trans hx2
      have e3:Ext (fun k=>k=w.heap.size+1∨R W k) W W3:=(e12.mono (fun _ _ h=>.inl h)).andThen hx3 (fun i hi ht=>by
       by_cases e:i=w.heap.size+1
       ·exact .inl e
       ·exact .inr (hRm _ _ _ (e12.block i hi e) ht))
      exact e3.trans ((Yc _ _ _).mono (fun _ _ h=>.inl h))
    | ret=>exact hp.elim
    | exit id=>exact hp.elim
    | goto t=>exact hp.elim
    | panic ch=>exact hp.elim
    | outgrown=>exact hp.elim
   | ret=>exact hp.elim
   | exit id=>exact hp.elim
   | goto t=>exact hp.elim
   | panic ch=>exact hp.elim
   | outgrown=>exact hp.elim
  ·rintro e W2 ⟨⟨v,rfl⟩,hi,hl,hk⟩
   refine ⟨none,_,by have:=run_endLoop (P:=P) hl (by rw[hrec];simp);rw[hrec] at this;exact this,hdone _ (hJ _ _ _ hi ?_) ((World.putObj_heap_other (by omega)).trans hk)⟩
   have hx:=Yc W2 (w.heap.size+1) (.loop { (rec .ready none) with state:=.exhausted })
   rw[hrec] at hx
   exact hx.mono (fun k _ hk=>.inr (.inl hk))
end Go.Proofs.YtlgipkemoldckaaGreatDoor
namespace Go.Proofs.YtlgipkemoldckaaGreatDoor
open Go.RowKit Go.Deep
section
variable {α:Type} {ea:α→List Value} {k:Nat} {e:TypeId} {base:Nat} {w:World}
theorem T6 (hk:∀ x,(ea x).length=k) {j:Nat} {u:Value} (hj:j<k):∀ (l:List α) (i:Nat) (x y:α),l[i]?=some x→ea y=(ea x).set j u→(l.set i y).flatMap ea=(l.flatMap ea).set (i*k+j) u
 | [],i,x,y,h,_=>by simp at h
 | a :: l,0,x,y,h,hy=>by
  simp at h
  subst h
  simp only[List.set_cons_zero,List.flatMap_cons,Nat.zero_mul,Nat.zero_add]
  rw[hy,List.set_append_left _ _ (by rw[hk];exact hj)]
 | a :: l,i+1,x,y,h,hy=>by
  simp only[List.getElem?_cons_succ] at h
  have ih:=T6 hk hj l i x y h hy
  simp only[List.set_cons_succ,List.flatMap_cons]
  rw[ih,List.set_append_right _ _ (by rw[hk,Nat.add_mul];omega)]
  congr 2
  rw[hk,Nat.add_mul]
  omega
theorem Own.setAt {g cap:Nat} {l:List α} (h:Own ea k e base w (.slice (some ⟨g,0,none⟩) l.length cap) l) (hk:∀ x,(ea x).length=k) {i j:Nat} {x y:α} {u:Value} (hx:l[i]?=some x) (hj:j<k) (hy:ea y=(ea x).set j u) :
  Own ea k e base (w.setCell ⟨g,i*k+j,none⟩ u) (.slice (some ⟨g,0,none⟩) l.length cap) (l.set i y):=by
 have hf:=T6 hk hj l i x y hx hy
 obtain ⟨h1,h2⟩:=h
 refine ⟨by rw[hf,List.length_set,List.length_set];exact h1,?_⟩
 rcases h2 with ⟨e1,_⟩|⟨g',cap',cur,e1,hb,hg,hn,hm,hs,ht⟩
 ·cases e1
 ·cases e1
  refine .inr ⟨g,cap,cur.setIfInBounds (i*k+j) u,by rw[List.length_set],hb,Joins.block_setCell hg u,by rw[List.length_set];exact hn,hm,by simpa using hs,?_⟩
  rw[hf,←ht,List.length_set,Array.toList_setIfInBounds,List.take_set]
theorem Own.cellAt {g cap:Nat} {l:List α} (h:Own ea k e base w (.slice (some ⟨g,0,none⟩) l.length cap) l) (hk:∀ x,(ea x).length=k) {i j:Nat} {x:α} {u:Value} (hx:l[i]?=some x) (hu:(ea x)[j]?=some u) :
  w.cell? ⟨g,i*k+j,none⟩=some u:=by
 obtain ⟨a,c,e1,_,_,h4⟩:=h.slice hk
 cases e1
 obtain ⟨b,o,e2,h5⟩:=h4 (by rintro rfl;simp at hx)
 cases e2
 have:=h5 i x hx j u hu
 rwa [Nat.zero_add] at this
theorem Own.free {g cap:Nat} {l:List α} (h:Own ea k e base w (.slice (some ⟨g,0,none⟩) l.length cap) l) (o:Nat):w.frozen? ⟨g,o,none⟩=false:=by
 obtain ⟨cur,hc⟩:=h.tag (b:=g) rfl
 exact Joins.unfrozen_of_block hc o
end
end Go.Proofs.YtlgipkemoldckaaGreatDoor
