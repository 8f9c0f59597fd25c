/- VAll2, part 4 of what the proof leans on (made short by a program). -/
import Derived.Test.YtlgipkemoldckaaGreatDoorVrZ3
set_option linter.unusedSimpArgs false
set_option linter.unusedVariables false
set_option linter.unusedSectionVars false
set_option maxRecDepth 20000
set_option maxHeartbeats 30000000
namespace Go.Proofs.YtlgipkemoldckaaGreatDoor
open Go.RowKit
theorem Ua:Tryz.prog.underlying 102=some (.map 23 109):=by kernel_rfl
theorem KM.le {base base':Nat} {W:World} {kb:Nat} {F:St→List Ch} {lk:List (St × Sl)} (h:KM base W kb F lk) (hb:base'≤base):KM base' W kb F lk :=
 ⟨h.map,fun u s hs=>(h.row u s hs).mono hb,h.non,h.far⟩
theorem XJ {P:Program} {ops:Array Oper} {Q:Exit→Act→World→Prop} {md:Region.Mode} {S:World→Prop} {Z:Nat→Bool} {rs:List Nat} {fuel:Nat} {listed:Array Bool} {a:Act} {w:World} (hr:Region.ready md ops listed=rs) (hne:rs≠[])
  (h:∀ i∈rs,wpOp P ops Q i (fun a' w'=>(Z i=false→S w')∧Zk P md ops Q S Z fuel (listed.setIfInBounds i true) a' w') a w):Zk P md ops Q S Z (fuel+1) listed a w :=
 ⟨fun h0=>absurd (hr.symm.trans h0) hne,fun j hj=>by rw[hr] at hj;exact h j hj⟩
theorem Wu {P:Program} {ops:Array Oper} {Q:Exit→Act→World→Prop} {i:Nat} {o:Oper} {d:Option Tmp} {v:Value} {K:Act→World→Prop} {a:Act} {w w':World} (ho:ops[i]?=some o) (hd:o.dst=d) (hw:Region.wanted o (yielded ops a.tmps)=true)
  (hv:(execOp a.eval o).run P w=.ok (.value v) w') (h:K (a.put d v) w'):wpOp P ops Q i K a w:=by
 subst hd
 exact wpOp_step ho fun K' hK=>by
  rw[if_pos hw,Oper.wp,hv]
  exact hK _ _ h
theorem QK {K V:Type} [DecidableEq K] {l:List (K × V)} {k:K} {v:V} (h:Z3 l k=some v):(k,v)∈l:=by
 induction l with
 | nil=>cases h
 | cons p r ih =>
  obtain ⟨k',v'⟩:=p
  simp only[Z3] at h
  split at h
  ·rename_i e;subst e;cases h;exact List.mem_cons_self ..
  ·exact List.mem_cons_of_mem _ (ih h)
theorem Qg {K V:Type} [DecidableEq K] {l:List (K × V)} {k:K} {v:V} (hn:(l.map (·.1)).Nodup) (h:(k,v)∈l):Z3 l k=some v:=by
 induction l with
 | nil=>cases h
 | cons p r ih =>
  obtain ⟨k',v'⟩:=p
  simp only[List.map_cons,List.nodup_cons] at hn
  rcases List.mem_cons.1 h with e|e
  ·cases e;simp[Z3]
  ·have hne:k'≠k:=fun e2=>hn.1 (by rw[e2];exact List.mem_map.2 ⟨_,e,rfl⟩)
   simp only[Z3,if_neg hne]
   exact ih hn.2 e
def UM (kb:Nat) (A:List Ch) (ps:List (St × Spn)) (w:World) (e:Ending) (w':World):Prop :=
 e=.returned (.tuple #[])∧∃ (C:List Ch) (F:St→List Ch) (lk:List (St × Sl)),Gth A (fun s=>s∈ps.map (·.1)∨∃ d∈A,d.under=s) C∧KM w.heap.size w' kb F lk∧(∀ u,(F u).Perm (Y8 C u)∧(F u).Pairwise Yt)∧Ext (·=kb) w w'
theorem Rc (bb kb pb:Nat) (va:Option Addr) (ca:Nat) (A:List Ch) (ps:List (St × Spn)) (w:World) (hb1:w.cell? ⟨bb,1,none⟩=some (.map (some pb))) (hb2:w.cell? ⟨bb,2,none⟩=some (.map (some kb))) (hmp:Z4 St.val Spn.val w pb ps) (hps:ps.length≤1000)
  (hkm:Z4 St.val Sl.val w kb []) (hv:Z6 Ch.cells 5 w (.slice va A.length ca) A) (hA:A.length≤1000) (hnd:A.Pairwise (fun a b=>a.block≠b.block)) (hA0:∀ c∈A,c.block≠⟨0,0⟩) (hne:pb≠kb) :
  Calls Tryz.prog 46 #[.pointer (some ⟨bb,0,none⟩),.slice va A.length ca] w fun e w'=>UM kb A ps w e w':=by
 have hmm:=@run_makeMap Tryz.prog
 have hins:∀ W,Z4 St.val Y6 W (w.heap.size+1) []→(Instr.mapUpdate 135 (.map (some (w.heap.size+1))) (.agg #[.int .i64 0,.int .i64 0]) (.int .i64 1)).run Tryz.prog W=.ok () (Zo W (w.heap.size+1) none (St.val ⟨0,0⟩) (Y6 1)):=fun W hW=>hW.update ZU YU ⟨0,0⟩ (Y6 1)
 have hm0:Z4 St.val Y6 ((w.alloc (.cells #[.pointer (some ⟨bb,0,none⟩)] 101)).alloc (.map #[] 0)) (w.heap.size+1) []:=by
  have:=Z4.made (ek:=St.val) (ev:=Y6) (w.alloc (.cells #[.pointer (some ⟨bb,0,none⟩)] 101))
  rwa [show (w.alloc (.cells #[.pointer (some ⟨bb,0,none⟩)] 101)).heap.size=w.heap.size+1 by simp] at this
 have hins0:=hins _ hm0
 go_enter Tryz.func46,Tryz.ntmps46
 go_upto_region 2 with fail
 have z1:(Zo ((w.alloc (.cells #[.pointer (some ⟨bb,0,none⟩)] 101)).alloc (.map #[] 0)) (w.heap.size+1) none (St.val ⟨0,0⟩) (Y6 1)).heap.size=w.heap.size+2:=by rw[Wg];simp
 have hB0:Below w.heap.size w (Zo ((w.alloc (.cells #[.pointer (some ⟨bb,0,none⟩)] 101)).alloc (.map #[] 0)) (w.heap.size+1) none (St.val ⟨0,0⟩) (Y6 1)):=((YE _ _ _ _ _).andThen (S:=(·=w.heap.size+1)) (Ext.refl (fun _=>False) _) (fun _ _ f=>f.elim)) |> fun hx=>Ext.new (((Below.refl _ _).alloc (Nat.le_refl _) _).alloc (by simp) _) hx (fun i hi _ e=>by omega) (by simp;omega)
 have b0:(Zo ((w.alloc (.cells #[.pointer (some ⟨bb,0,none⟩)] 101)).alloc (.map #[] 0)) (w.heap.size+1) none (St.val ⟨0,0⟩) (Y6 1)).heap[w.heap.size]?=some (.cells #[.pointer (some ⟨bb,0,none⟩)] 101):=by
  rw[Xj _ _ _ _ _ _ (by omega),Below.heap_alloc _ _ _ (by simp)]
  exact World.alloc_heap_new w _
 have m1:Z4 St.val Y6 (Zo ((w.alloc (.cells #[.pointer (some ⟨bb,0,none⟩)] 101)).alloc (.map #[] 0)) (w.heap.size+1) none (St.val ⟨0,0⟩) (Y6 1)) (w.heap.size+1) [(⟨0,0⟩,1)]:=hm0.put ⟨0,0⟩ 1
 rw[z1]
 generalize Zo ((w.alloc (.cells #[.pointer (some ⟨bb,0,none⟩)] 101)).alloc (.map #[] 0)) (w.heap.size+1) none (St.val ⟨0,0⟩) (Y6 1)=w0 at *
 have z2:(w0.alloc (.cells #[.map (some (w.heap.size+1))] 135)).heap.size=w.heap.size+3:=by simp;omega
 have hB1:Below w.heap.size w (w0.alloc (.cells #[.map (some (w.heap.size+1))] 135)):=hB0.alloc (by omega) _
 have b2:(w0.alloc (.cells #[.map (some (w.heap.size+1))] 135)).heap[w.heap.size]?=some (.cells #[.pointer (some ⟨bb,0,none⟩)] 101):=(Below.heap_alloc _ _ _ (by omega)).trans b0
 have b3:(w0.alloc (.cells #[.map (some (w.heap.size+1))] 135)).heap[w.heap.size+2]?=some (.cells #[.map (some (w.heap.size+1))] 135 (0,0)):=by have:=World.alloc_heap_new w0 (.cells #[.map (some (w.heap.size+1))] 135);rwa [z1] at this
 have sn1:YH (w0.alloc (.cells #[.map (some (w.heap.size+1))] 135)) (w.heap.size+1) 1 []:=by
  refine ⟨_,m1.alloc _,fun u=>?_,fun u v h=>?_⟩
  ·by_cases hu:u=⟨0,0⟩
   ·subst hu;simp[Z3]
   ·simp[Z3,hu,Ne.symm hu]
  ·simp only[Z3] at h
   split at h
   ·cases h;omega
   ·cases h
 generalize w0.alloc (.cells #[.map (some (w.heap.size+1))] 135)=w1 at *
 have km1:KM (w.heap.size+3) w1 kb (Y8 []) []:=⟨hkm.below hB1,(fun u s h=>by cases h),(fun u _=>rfl),(fun u u' s s' b h=>by cases h)⟩
 have hv1:=hv.below hB1
 have d1:=Z0 hB1 hb1
 have d2:=Z0 hB1 hb2
 have mp1:=hmp.below hB1
 have hkl:=hkm.lt
 have hpl:=hmp.lt
 have hbl:=Zy hb1
 have hbk:bb≠kb:=fun e=>by
  obtain ⟨_,es,cl,h,_⟩:=hkm
  simp only[World.cell?,e,h] at hb1
  cases hb1
 have HB1:=Lib.hid hB1
 have HV1:=Lib.hid hv1
 have HMP:=Lib.hid mp1
 have HND:=Lib.hid hnd
 have HA0:=Lib.hid hA0
 clear hm0 hins hins0 hB0 b0 m1 hkm hv hb1 hb2 hmp hB1 hv1 mp1 hnd hA0 z1
 obtain ⟨i0,hi,hz0,hz1,hz2⟩:=info_parts VM
 have c0:w1.cell? ⟨w.heap.size,0,none⟩=some (.pointer (some ⟨bb,0,none⟩)):=by simp[World.cell?,b2]
 have c2:w1.cell? ⟨w.heap.size+2,0,none⟩=some (.map (some (w.heap.size+1))):=by simp[World.cell?,b3]
 have SN1:=Lib.hid sn1
 have KM1:=Lib.hid km1
 clear sn1 km1
 go_wp2_with fail
 go_loopg [18] A.length (fun g i wx=>∃ (k:Nat) (lk:List (St × Sl)),g=A.length - k∧k≤A.length∧i=.int .i64 k∧Hid (YH wx (w.heap.size+1) (k+1) (A.take k))∧Hid (KM (w.heap.size+3) wx kb (Y8 (A.take k)) lk)∧Hid (Ext (fun i=>i=w.heap.size+1∨i=kb) w1 wx))
 case atStart=>exact ⟨0,[],rfl,Nat.zero_le _,rfl,SN1,KM1,Jh (Ext.refl _ _)⟩
 case round =>
  obtain ⟨k,lk,hg,hk,rfl,HS,HK,HX⟩:=hrel
  have HG:=Lib.hid hg
  have hxz:=HX.out.size
  clear hg
  by_cases hlt:k<A.length
  ·obtain ⟨x,hx⟩:∃ x,A[k]?=some x:=⟨_,List.getElem?_eq_getElem hlt⟩
   obtain ⟨ba,oa,ca1,e1,hcs⟩:=HV1.out.dcells (by intro e;rw[e] at hlt;simp at hlt)
   cases e1
   obtain ⟨x0,x1,x2,x3,x4⟩:=hcs k x hx
   have hba:ba<w.heap.size+3:=by have:=Zy x0;omega
   have hbn:¬ (ba=w.heap.size+1∨ba=kb):=fun e=>by
    rcases e with e|e
    ·obtain ⟨ls,hls,_⟩:=SN1.out
     obtain ⟨_,es,cl,h,_⟩:=hls
     simp only[World.cell?,e,h] at x0
     cases x0
    ·obtain ⟨_,es,cl,h,_⟩:=KM1.out.map
     simp only[World.cell?,e,h] at x0
     cases x0
   replace x0:=HX.out.keep x0 hbn
   replace x1:=HX.out.keep x1 hbn
   replace x2:=HX.out.keep x2 hbn
   replace x3:=HX.out.keep x3 hbn
   replace x4:=HX.out.keep x4 hbn
   have c0k:=HX.out.keep c0 (by omega)
   have c2k:=HX.out.keep c2 (by omega)
   have d2k:=HX.out.keep d2 (by omega)
   obtain ⟨⟨xn,xr⟩,⟨un,ur⟩,xk⟩:=x
   simp only at x0 x1 x2 x3 x4
   have HX0:=Lib.hid hx
   clear hx hcs
   have hkk:(k:Int)<(A.length:Int):=by omega
   have hk0:(0:Int)≤(k:Int):=by omega
   go_upto_region 5 with fail
   have y0:(wr.alloc (.cells #[.int .i64 xn,.int .i64 xr,.int .i64 un,.int .i64 ur,.string xk] 53)).cell? ⟨wr.heap.size,0,none⟩=some (.int .i64 xn):=by go_simp
   have y1:(wr.alloc (.cells #[.int .i64 xn,.int .i64 xr,.int .i64 un,.int .i64 ur,.string xk] 53)).cell? ⟨wr.heap.size,1,none⟩=some (.int .i64 xr):=by go_simp
   have y2:(wr.alloc (.cells #[.int .i64 xn,.int .i64 xr,.int .i64 un,.int .i64 ur,.string xk] 53)).cell? ⟨wr.heap.size,2,none⟩=some (.int .i64 un):=by go_simp
   have y3:(wr.alloc (.cells #[.int .i64 xn,.int .i64 xr,.int .i64 un,.int .i64 ur,.string xk] 53)).cell? ⟨wr.heap.size,3,none⟩=some (.int .i64 ur):=by go_simp
   have y4:(wr.alloc (.cells #[.int .i64 xn,.int .i64 xr,.int .i64 un,.int .i64 ur,.string xk] 53)).cell? ⟨wr.heap.size,4,none⟩=some (.string xk):=by go_simp
   have hza:(wr.alloc (.cells #[.int .i64 xn,.int .i64 xr,.int .i64 un,.int .i64 ur,.string xk] 53)).heap.size=wr.heap.size+1:=by simp
   have HXA:Hid (Ext (fun i=>i=w.heap.size+1∨i=kb) w1 (wr.alloc (.cells #[.int .i64 xn,.int .i64 xr,.int .i64 un,.int .i64 ur,.string xk] 53))):=Jh (HX.out.alloc _)
   have HKA:Hid (KM (w.heap.size+3) (wr.alloc (.cells #[.int .i64 xn,.int .i64 xr,.int .i64 un,.int .i64 ur,.string xk] 53)) kb (Y8 (A.take k)) lk):=Jh (HK.out.ext ((Ext.refl (fun _=>False) _).alloc _) (fun f=>f) (fun _ _ f=>f))
   have hrz:∀ b u,((Z3 lk u).getD Z5).val.ownBlock=some b→b<wr.heap.size:=fun b u hb=>((HK.out.own u).blk b hb).2
   obtain ⟨ls,hls,hlz,hlv⟩:=HS.out
   have hlsA:=hls.alloc (.cells #[.int .i64 xn,.int .i64 xr,.int .i64 un,.int .i64 ur,.string xk] 53)
   replace c0k:=Z2 c0k (.cells #[.int .i64 xn,.int .i64 xr,.int .i64 un,.int .i64 ur,.string xk] 53)
   replace c2k:=Z2 c2k (.cells #[.int .i64 xn,.int .i64 xr,.int .i64 un,.int .i64 ur,.string xk] 53)
   replace d2k:=Z2 d2k (.cells #[.int .i64 xn,.int .i64 xr,.int .i64 un,.int .i64 ur,.string xk] 53)
   have hsp:=Tz (C:=A.take k) (C':=A.take (k+1)) (u:=⟨xn,xr⟩) hlz hlv (fun u=>by
    rw[List.take_add_one,HX0.out]
    constructor
    ·rintro ⟨c,hc,e⟩
     rcases List.mem_append.1 hc with hc|hc
     ·exact .inl ⟨c,hc,e⟩
     ·simp at hc;subst hc;exact .inr e.symm
    ·rintro (⟨c,hc,e⟩|rfl)
     ·exact ⟨c,List.mem_append_left _ hc,e⟩
     ·exact ⟨⟨⟨xn,xr⟩,⟨un,ur⟩,xk⟩,by simp,rfl⟩)
   have hqb:0≤(Z3 ls ⟨xn,xr⟩).getD 0∧(Z3 ls ⟨xn,xr⟩).getD 0≤1001:=by
    cases e:Z3 ls ⟨xn,xr⟩ with
    | none=>simp
    | some v=>have:=hlv _ v e;simp;omega
   have hen:=hlsA.entry ZU YU WA ⟨xn,xr⟩ (0:Int)
   rw[show ((Z3 ls ⟨xn,xr⟩).map Y6).getD (.int .i64 0)=.int .i64 ((Z3 ls ⟨xn,xr⟩).getD 0) from by cases Z3 ls ⟨xn,xr⟩ <;> rfl] at hen
   obtain ⟨st,es1,cl1,e1,e2,e3,e4⟩:=hen
   generalize hq:(Z3 ls ⟨xn,xr⟩).getD 0=q at *
   have HSP:=Lib.hid hsp
   clear hsp hlz hlv hls hq x0 x1 x2 x3 x4 HK HX
   generalize wr.alloc (.cells #[.int .i64 xn,.int .i64 xr,.int .i64 un,.int .i64 ur,.string xk] 53)=w2 at *
   have hsb:w.heap.size+1<w2.heap.size:=by omega
   obtain ⟨es0,k0,hb0,-⟩:=hlsA.2
   have hadd:IntKind.i64.wrap (q+1)=q+1:=IntWalk.i64_in _ (by omega)
   have hS0:(fun W:World=>W.cell? ⟨w.heap.size+2,0,none⟩=some (.map (some (w.heap.size+1)))∧W.cell? ⟨wr.heap.size,0,none⟩=some (.int .i64 xn)∧W.cell? ⟨wr.heap.size,1,none⟩=some (.int .i64 xr)∧(Instr.lookup 135 (.map (some (w.heap.size+1))) (.agg #[.int .i64 xn,.int .i64 xr]) false).run Tryz.prog W=.ok (.int .i64 q) W) w2.drew:=⟨c2k,y0,y1,e2 _ rfl⟩
   refine Zq (fun W:World=>W.cell? ⟨w.heap.size+2,0,none⟩=some (.map (some (w.heap.size+1)))∧W.cell? ⟨wr.heap.size,0,none⟩=some (.int .i64 xn)∧W.cell? ⟨wr.heap.size,1,none⟩=some (.int .i64 xr)∧(Instr.lookup 135 (.map (some (w.heap.size+1))) (.agg #[.int .i64 xn,.int .i64 xr]) false).run Tryz.prog W=.ok (.int .i64 q) W) (fun i=>i == 7) (by kernel_rfl) ?_
   refine J4 0 22 (.map (some (w.heap.size+1))) hS0 ?_
   try simp only[Ja]
   refine J4 1 23 _ hS0 ?_
   try simp only[Ja]
   refine J4 2 24 (.agg #[.int .i64 xn,.int .i64 xr]) hS0 ?_
   try simp only[Ja]
   refine J4 3 25 (.int .i64 q) hS0 ?_
   try simp only[Ja]
   refine J4 4 26 (.int .i64 (q+1)) hS0 ?_
   try simp only[Ja]
   have hS1:(fun W:World=>W.cell? ⟨w.heap.size+2,0,none⟩=some (.map (some (w.heap.size+1)))∧W.cell? ⟨wr.heap.size,0,none⟩=some (.int .i64 xn)∧W.cell? ⟨wr.heap.size,1,none⟩=some (.int .i64 xr)∧(Instr.lookup 135 (.map (some (w.heap.size+1))) (.agg #[.int .i64 xn,.int .i64 xr]) false).run Tryz.prog W=.ok (.int .i64 q) W) (w2.drew.putObj (w.heap.size+1) (.map es1 cl1)):=⟨(Ya hb0 _ _ _).trans c2k,(Ya hb0 _ _ _).trans y0,(Ya hb0 _ _ _).trans y1,e3 _ (World.putObj_heap_same hsb)⟩
   refine Zg (i:=5) (d:=some 27) (v:=.tuple #[.int .i64 q,.int .i64 st]) (w':=w2.drew.putObj (w.heap.size+1) (.map es1 cl1)) (by kernel_rfl) rfl rfl (by rfl) (by have r:(Instr.mapEntry 135 (.map (some (w.heap.size+1))) (.agg #[.int .i64 xn,.int .i64 xr])).run Tryz.prog w2.drew=_:=e1 w2.drew rfl;go_simp;try rw[r]) (fun _=>hS1) ?_
   try simp only[Ja]
   obtain ⟨es2,cl2,f1,f2⟩:=e4 (w2.drew.putObj (w.heap.size+1) (.map es1 cl1)) (q+1) (World.putObj_heap_same hsb)
   refine Zg (i:=6) (d:=some 28) (v:=.int .i64 st) (w':=w2.drew.putObj (w.heap.size+1) (.map es1 cl1)) (by kernel_rfl) rfl rfl (by rfl) (by go_simp;try rfl) (fun _=>hS1) ?_
   try simp only[Ja]
   refine Zn (i:=7) (d:=none) (w':=(w2.drew.putObj (w.heap.size+1) (.map es1 cl1)).putObj (w.heap.size+1) (.map es2 cl2)) (by kernel_rfl) rfl rfl (by rfl) (by have r:(Instr.entryStore 135 (.map (some (w.heap.size+1))) (.int .i64 st) (.int .i64 (q+1))).run Tryz.prog (w2.drew.putObj (w.heap.size+1) (.map es1 cl1))=_:=f1;go_simp;try rw[r]) (fun h=>by cases h) ?_
   try simp only[Ja]
   refine Zi (by kernel_rfl) ?_ _
   have hxa:Ext (·=w.heap.size+1) w2 ((w2.drew.putObj (w.heap.size+1) (.map es1 cl1)).putObj (w.heap.size+1) (.map es2 cl2)):=(Ext.refl _ _).drew.trans ((Yy _ _ _).trans (Yy _ _ _))
   have HSN:Hid (YH ((w2.drew.putObj (w.heap.size+1) (.map es1 cl1)).putObj (w.heap.size+1) (.map es2 cl2)) (w.heap.size+1) (k+1+1) (A.take (k+1))):=Lib.hid ⟨_,f2,HSP.out.1,HSP.out.2⟩
   have k2:=HKA.out.ext hxa (by omega) (fun b hb e=>by
    obtain ⟨_,cur,hc⟩:=hb
    rw[e,hb0] at hc
    cases hc)
   have HXB:=Jh (HXA.out.trans (hxa.mono (fun _ _ e=>.inl e)))
   replace c0k:=hxa.keep c0k (by omega)
   replace d2k:=hxa.keep d2k (fun e=>by
    simp only[World.cell?,e,hb0] at d2k
    cases d2k)
   replace y0:=hxa.keep y0 (by omega)
   replace y1:=hxa.keep y1 (by omega)
   replace y2:=hxa.keep y2 (by omega)
   replace y3:=hxa.keep y3 (by omega)
   replace y4:=hxa.keep y4 (by omega)
   have hzb:=hxa.size
   clear hS0 hS1 e1 e2 e3 e4 f1 f2 hxa hlsA HSP HXA HKA hb0 hadd hqb c2k
   generalize (w2.drew.putObj (w.heap.size+1) (.map es1 cl1)).putObj (w.heap.size+1) (.map es2 cl2)=w3 at *
   go_upto_region 6 with fail
   have hown0:=k2.own ⟨un,ur⟩
   have hfl:=Vr (A.take k) ⟨un,ur⟩
   have htl:(A.take k).length≤k:=by rw[List.length_take];omega
   have hen:=k2.map.drew.entry ZU Xp XX ⟨un,ur⟩ Z5
   rw[show ((Z3 lk ⟨un,ur⟩).map Sl.val).getD (.slice none 0 0)=((Z3 lk ⟨un,ur⟩).getD Z5).val from by cases Z3 lk ⟨un,ur⟩ <;> rfl] at hen
   obtain ⟨st,es1,cl1,e1,-,-,e4⟩:=hen
   obtain ⟨es0,k0,hb0,-⟩:=k2.map.2
   have hkl3:kb<w3.heap.size:=k2.map.lt
   have hx12:Ext (·=kb) w3 ((w3.drew.alloc (.cells #[.int .i64 xn,.int .i64 xr,.int .i64 un,.int .i64 ur,.string xk] 53)).putObj kb (.map es1 cl1)):=((Ext.refl _ _).drew.alloc _).trans (Yy _ _ _)
   have hbA:(w3.drew.alloc (.cells #[.int .i64 xn,.int .i64 xr,.int .i64 un,.int .i64 ur,.string xk] 53)).heap[kb]?=some (.map es0 k0):=(Below.heap_alloc _ _ _ hkl3).trans hb0
   have hz4:((w3.drew.alloc (.cells #[.int .i64 xn,.int .i64 xr,.int .i64 un,.int .i64 ur,.string xk] 53)).putObj kb (.map es1 cl1)).heap.size=w3.heap.size+1:=by simp[World.putObj]
   have hownA:Own Ch.cells 5 53 (w.heap.size+3) ((w3.drew.alloc (.cells #[.int .i64 xn,.int .i64 xr,.int .i64 un,.int .i64 ur,.string xk] 53)).putObj kb (.map es1 cl1)) ((Z3 lk ⟨un,ur⟩).getD Z5).val (Y8 (A.take k) ⟨un,ur⟩):=(hown0.drew.alloc _).ext (Yy _ _ _) (fun b hb e=>by
    cases e2:Z3 lk ⟨un,ur⟩ with
    | some s=>rw[e2] at hb;exact (k2.blk e2 hb).2 e
    | none=>rw[e2] at hb;cases hb)
   obtain ⟨v3,w4,hr3,hown3,hx3,hfr3⟩:=X2 (P:=Tryz.prog) 48 48 i0 (.agg #[.int .i64 0,.int .i64 0,.int .i64 0,.int .i64 0,.string ⟨#[]⟩]) 48 Vk hi hz0 hz1 hz2 rfl (by omega) (fun _=>rfl) (fun x u hu=>by simp[Ch.cells] at hu;rcases hu with rfl|rfl|rfl|rfl|rfl <;> rfl) hownA ⟨⟨xn,xr⟩,⟨un,ur⟩,xk⟩ w3.heap.size 1 (fun j u hj=>by
    rw[Ya hbA]
    match j,hj with
    | 0,hj=>simp[Ch.cells] at hj;subst hj;go_simp
    | 1,hj=>simp[Ch.cells] at hj;subst hj;go_simp
    | 2,hj=>simp[Ch.cells] at hj;subst hj;go_simp
    | 3,hj=>simp[Ch.cells] at hj;subst hj;go_simp
    | 4,hj=>simp[Ch.cells] at hj;subst hj;go_simp
    | n+5,hj=>simp[Ch.cells] at hj) (by unfold maxLen;omega) (by omega) (by omega)
   obtain ⟨s3,rfl⟩:∃ s3:Sl,v3=s3.val:=by
    rcases hown3.eq_slice with ⟨e,_⟩|⟨g,c,e,_⟩
    ·exact ⟨Z5,e⟩
    ·exact ⟨⟨_,_,_⟩,e⟩
   have hrow:∀ b,((Z3 lk ⟨un,ur⟩).getD Z5).val.ownBlock=some b→b≠kb∧w.heap.size+3≤b:=fun b hb=>by
    cases e2:Z3 lk ⟨un,ur⟩ with
    | some s=>rw[e2] at hb;exact ⟨(k2.blk e2 hb).2,(k2.blk e2 hb).1.1⟩
    | none=>rw[e2] at hb;cases hb
   have hrz2:=fun b=>hrz b ⟨un,ur⟩
   obtain ⟨es2,cl2,f1,f2⟩:=e4 w4 s3 ((hx3.block kb (by omega) (fun e=>(hrow _ e).1 rfl)).trans (World.putObj_heap_same (by simp;omega)))
   have hfin:=k2.put (l:=Y8 (A.take k) ⟨un,ur⟩++[⟨⟨xn,xr⟩,⟨un,ur⟩,xk⟩]) hx12 hx3 hown3 hfr3 (Yy w4 kb (.map es2 cl2)) f2
   have hfil:X1 (Y8 (A.take k)) ⟨un,ur⟩ (Y8 (A.take k) ⟨un,ur⟩++[⟨⟨xn,xr⟩,⟨un,ur⟩,xk⟩])=Y8 (A.take (k+1)):=by
    rw[List.take_add_one,HX0.out]
    exact (Un (A.take k) ⟨⟨xn,xr⟩,⟨un,ur⟩,xk⟩).symm
   rw[hfil] at hfin
   have hxc:Ext (fun i=>i=w.heap.size+1∨i=kb) w1 (w4.putObj kb (.map es2 cl2)):=((HXB.out.trans (hx12.mono (fun _ _ e=>.inr e))).andThen hx3 (fun i hi e=>by have:=(hrow _ e).2;omega)).trans ((Yy w4 kb (.map es2 cl2)).mono (fun _ _ e=>.inr e))
   have hsn3:YH (w4.putObj kb (.map es2 cl2)) (w.heap.size+1) (k+1+1) (A.take (k+1)):=((HSN.out.ext hx12 (fun e=>by omega)).ext hx3 (fun e=>by have:=(hrow _ e).2;omega)).ext (Yy w4 kb (.map es2 cl2)) (fun e=>by omega)
   have HFIN:=Lib.hid hfin
   have HXC:=Lib.hid hxc
   have HSN3:=Lib.hid hsn3
   have hS4:w4.cell? ⟨w.heap.size,0,none⟩=some (.pointer (some ⟨bb,0,none⟩))∧w4.cell? ⟨bb,2,none⟩=some (.map (some kb))∧w4.cell? ⟨wr.heap.size,0,none⟩=some (.int .i64 xn)∧w4.cell? ⟨wr.heap.size,1,none⟩=some (.int .i64 xr)∧w4.cell? ⟨wr.heap.size,2,none⟩=some (.int .i64 un)∧w4.cell? ⟨wr.heap.size,3,none⟩=some (.int .i64 ur)∧w4.cell? ⟨wr.heap.size,4,none⟩=some (.string xk):=by
    have kp:∀ b o u,w3.cell? ⟨b,o,none⟩=some u→¬ (((Z3 lk ⟨un,ur⟩).getD Z5).val.ownBlock=some b)→w4.cell? ⟨b,o,none⟩=some u:=fun b o u h hn=>hx3.keep ((Ya hbA _ _ _).trans (Z2 h _)) hn
    have n1:∀ b,b<w.heap.size+3→¬ (((Z3 lk ⟨un,ur⟩).getD Z5).val.ownBlock=some b):=fun b hb e=>by have:=(hrow _ e).2;omega
    have n2:¬ (((Z3 lk ⟨un,ur⟩).getD Z5).val.ownBlock=some wr.heap.size):=fun e=>by have:=hrz2 _ e;omega
    exact ⟨kp _ _ _ c0k (n1 _ (by omega)),kp _ _ _ d2k (n1 _ (by omega)),kp _ _ _ y0 n2,kp _ _ _ y1 n2,kp _ _ _ y2 n2,kp _ _ _ y3 n2,kp _ _ _ y4 n2⟩
   obtain ⟨sa,sm,sc,hs0⟩:∃ sa sm sc,(Z3 lk ⟨un,ur⟩).getD Z5=⟨sa,sm,sc⟩:=⟨_,_,_,rfl⟩
   rw[hs0] at hr3 e1
   simp only[Sl.val] at hr3 e1 f1
   have HS4:=Lib.hid hS4
   have HSK:Hid (∀ (b o:Nat) u,w3.cell? ⟨b,o,none⟩=some u→(w3.drew.putObj kb (.map es1 cl1)).cell? ⟨b,o,none⟩=some u∧((w3.drew.alloc (.cells #[.int .i64 xn,.int .i64 xr,.int .i64 un,.int .i64 ur,.string xk] 53)).putObj kb (.map es1 cl1)).cell? ⟨b,o,none⟩=some u):=Jh (fun b o u h=>⟨(Ya hb0 _ _ _).trans h,(Ya hbA _ _ _).trans (Z2 h _)⟩)
   have r1:(Instr.mapEntry 103 (.map (some kb)) (.agg #[.int .i64 un,.int .i64 ur])).run Tryz.prog w3.drew=.ok (.tuple #[.slice sa sm sc,.int .i64 st]) (w3.drew.putObj kb (.map es1 cl1)):=e1 w3.drew rfl
   have r2:(Instr.mapEntry 103 (.map (some kb)) (.agg #[.int .i64 un,.int .i64 ur])).run Tryz.prog (w3.drew.alloc (.cells #[.int .i64 xn,.int .i64 xr,.int .i64 un,.int .i64 ur,.string xk] 53))=.ok (.tuple #[.slice sa sm sc,.int .i64 st]) ((w3.drew.alloc (.cells #[.int .i64 xn,.int .i64 xr,.int .i64 un,.int .i64 ur,.string xk] 53)).putObj kb (.map es1 cl1)):=e1 (w3.drew.alloc (.cells #[.int .i64 xn,.int .i64 xr,.int .i64 un,.int .i64 ur,.string xk] 53)) (Below.heap_alloc _ _ _ hkl3)
   have r3:(Instr.entryStore 103 (.map (some kb)) (.int .i64 st) (.slice s3.a s3.n s3.cap)).run Tryz.prog w4=.ok () (w4.putObj kb (.map es2 cl2)):=f1
   have hcom:(w3.drew.putObj kb (.map es1 cl1)).alloc (.cells #[.int .i64 xn,.int .i64 xr,.int .i64 un,.int .i64 ur,.string xk] 53)=(w3.drew.alloc (.cells #[.int .i64 xn,.int .i64 xr,.int .i64 un,.int .i64 ur,.string xk] 53)).putObj kb (.map es1 cl1):=Sv w3.drew hkl3 _ _
   clear hfin hxc hfil hown0 hown3 hx3 hfr3 hs0 hsn3 hS4 e1 e4 f1 f2 hownA hx12 hbA hrow hrz2 hrz k2 hb0 HSN HXB
   have hS0:(fun W:World=>W.cell? ⟨w.heap.size,0,none⟩=some (.pointer (some ⟨bb,0,none⟩))∧W.cell? ⟨bb,2,none⟩=some (.map (some kb))∧W.cell? ⟨wr.heap.size,0,none⟩=some (.int .i64 xn)∧W.cell? ⟨wr.heap.size,1,none⟩=some (.int .i64 xr)∧W.cell? ⟨wr.heap.size,2,none⟩=some (.int .i64 un)∧W.cell? ⟨wr.heap.size,3,none⟩=some (.int .i64 ur)∧W.cell? ⟨wr.heap.size,4,none⟩=some (.string xk)) w3.drew:=⟨c0k,d2k,y0,y1,y2,y3,y4⟩
   have hSp:(fun W:World=>W.cell? ⟨w.heap.size,0,none⟩=some (.pointer (some ⟨bb,0,none⟩))∧W.cell? ⟨bb,2,none⟩=some (.map (some kb))∧W.cell? ⟨wr.heap.size,0,none⟩=some (.int .i64 xn)∧W.cell? ⟨wr.heap.size,1,none⟩=some (.int .i64 xr)∧W.cell? ⟨wr.heap.size,2,none⟩=some (.int .i64 un)∧W.cell? ⟨wr.heap.size,3,none⟩=some (.int .i64 ur)∧W.cell? ⟨wr.heap.size,4,none⟩=some (.string xk)) (w3.drew.putObj kb (.map es1 cl1)):=⟨(HSK.out _ _ _ c0k).1,(HSK.out _ _ _ d2k).1,(HSK.out _ _ _ y0).1,(HSK.out _ _ _ y1).1,(HSK.out _ _ _ y2).1,(HSK.out _ _ _ y3).1,(HSK.out _ _ _ y4).1⟩
   have hSq:(fun W:World=>W.cell? ⟨w.heap.size,0,none⟩=some (.pointer (some ⟨bb,0,none⟩))∧W.cell? ⟨bb,2,none⟩=some (.map (some kb))∧W.cell? ⟨wr.heap.size,0,none⟩=some (.int .i64 xn)∧W.cell? ⟨wr.heap.size,1,none⟩=some (.int .i64 xr)∧W.cell? ⟨wr.heap.size,2,none⟩=some (.int .i64 un)∧W.cell? ⟨wr.heap.size,3,none⟩=some (.int .i64 ur)∧W.cell? ⟨wr.heap.size,4,none⟩=some (.string xk)) ((w3.drew.alloc (.cells #[.int .i64 xn,.int .i64 xr,.int .i64 un,.int .i64 ur,.string xk] 53)).putObj kb (.map es1 cl1)):=⟨(HSK.out _ _ _ c0k).2,(HSK.out _ _ _ d2k).2,(HSK.out _ _ _ y0).2,(HSK.out _ _ _ y1).2,(HSK.out _ _ _ y2).2,(HSK.out _ _ _ y3).2,(HSK.out _ _ _ y4).2⟩
   have hSa:(fun W:World=>W.cell? ⟨w.heap.size,0,none⟩=some (.pointer (some ⟨bb,0,none⟩))∧W.cell? ⟨bb,2,none⟩=some (.map (some kb))∧W.cell? ⟨wr.heap.size,0,none⟩=some (.int .i64 xn)∧W.cell? ⟨wr.heap.size,1,none⟩=some (.int .i64 xr)∧W.cell? ⟨wr.heap.size,2,none⟩=some (.int .i64 un)∧W.cell? ⟨wr.heap.size,3,none⟩=some (.int .i64 ur)∧W.cell? ⟨wr.heap.size,4,none⟩=some (.string xk)) (w3.drew.alloc (.cells #[.int .i64 xn,.int .i64 xr,.int .i64 un,.int .i64 ur,.string xk] 53)):=⟨Z2 c0k _,Z2 d2k _,Z2 y0 _,Z2 y1 _,Z2 y2 _,Z2 y3 _,Z2 y4 _⟩
   refine Zq (fun W:World=>W.cell? ⟨w.heap.size,0,none⟩=some (.pointer (some ⟨bb,0,none⟩))∧W.cell? ⟨bb,2,none⟩=some (.map (some kb))∧W.cell? ⟨wr.heap.size,0,none⟩=some (.int .i64 xn)∧W.cell? ⟨wr.heap.size,1,none⟩=some (.int .i64 xr)∧W.cell? ⟨wr.heap.size,2,none⟩=some (.int .i64 un)∧W.cell? ⟨wr.heap.size,3,none⟩=some (.int .i64 ur)∧W.cell? ⟨wr.heap.size,4,none⟩=some (.string xk)) (fun i=>i == 12) (by kernel_rfl) ?_
   refine JR 0 29 _ rfl rfl hS0 (fun W hW=>by obtain ⟨q0,q1,q2,q3,q4,q5,q6⟩:=hW;go_simp;try rfl) ?_
   try simp only[Ja]
   refine JR 1 30 _ rfl rfl hS0 (fun W hW=>by obtain ⟨q0,q1,q2,q3,q4,q5,q6⟩:=hW;go_simp;try rfl) ?_
   try simp only[Ja]
   refine JR 2 31 _ rfl rfl hS0 (fun W hW=>by obtain ⟨q0,q1,q2,q3,q4,q5,q6⟩:=hW;go_simp;try rfl) ?_
   try simp only[Ja]
   refine JR 3 32 (.map (some kb)) rfl rfl hS0 (fun W hW=>by obtain ⟨q0,q1,q2,q3,q4,q5,q6⟩:=hW;go_simp;try rfl) ?_
   try simp only[Ja]
   refine JR 4 33 _ rfl rfl hS0 (fun W hW=>by obtain ⟨q0,q1,q2,q3,q4,q5,q6⟩:=hW;go_simp;try rfl) ?_
   try simp only[Ja]
   refine JR 5 34 (.agg #[.int .i64 un,.int .i64 ur]) rfl rfl hS0 (fun W hW=>by obtain ⟨q0,q1,q2,q3,q4,q5,q6⟩:=hW;go_simp;try rfl) ?_
   try simp only[Ja]
   refine JR 6 36 (.agg #[.int .i64 xn,.int .i64 xr,.int .i64 un,.int .i64 ur,.string xk]) rfl rfl hS0 (fun W hW=>by obtain ⟨q0,q1,q2,q3,q4,q5,q6⟩:=hW;go_simp;try rfl) ?_
   try simp only[Ja]
   refine Zg (i:=7) (d:=some 37) (v:=.slice (some ⟨w3.heap.size,0,none⟩) 1 1) (w':=w3.drew.alloc (.cells #[.int .i64 xn,.int .i64 xr,.int .i64 un,.int .i64 ur,.string xk] 53)) (by kernel_rfl) rfl rfl (by rfl) (by go_simp;try rfl) (fun _=>hSa) ?_
   try simp only[Ja]
   refine Zg (i:=8) (d:=some 38) (v:=.tuple #[.slice sa sm sc,.int .i64 st]) (w':=(w3.drew.alloc (.cells #[.int .i64 xn,.int .i64 xr,.int .i64 un,.int .i64 ur,.string xk] 53)).putObj kb (.map es1 cl1)) (by kernel_rfl) rfl rfl (by rfl) (by have r4:(Instr.mapEntry 103 (.map (some kb)) (.agg #[.int .i64 un,.int .i64 ur])).run Tryz.prog (w3.alloc (.cells #[.int .i64 xn,.int .i64 xr,.int .i64 un,.int .i64 ur,.string xk] 53)).drew=.ok (.tuple #[.slice sa sm sc,.int .i64 st]) ((w3.alloc (.cells #[.int .i64 xn,.int .i64 xr,.int .i64 un,.int .i64 ur,.string xk] 53)).drew.putObj kb (.map es1 cl1)):=r2;go_simp;try rw[r4]) (fun _=>hSq) ?_
   try simp only[Ja]
   refine J0 9 35 (.slice sa sm sc) hSq ?_
   try simp only[Ja]
   refine J0 11 40 (.int .i64 st) hSq ?_
   try simp only[Ja]
   refine Zg (i:=10) (d:=some 39) (v:=.slice s3.a s3.n s3.cap) (w':=w4) (by kernel_rfl) rfl rfl (by rfl) (Xt rfl rfl rfl hr3) (fun _=>HS4.out) ?_
   try simp only[Ja]
   refine Zn (i:=12) (d:=none) (w':=w4.putObj kb (.map es2 cl2)) (by kernel_rfl) rfl rfl (by rfl) (by go_simp;try rw[r3]) (fun h=>by cases h) ?_
   try simp only[Ja]
   refine Zi (by kernel_rfl) ?_ _
   clear hS0 hSp hSq hSa r1 r2 r3 hcom HSK HS4 hr3
   go_wp2_with fail
   go_roundg (A.length - (k+1))
   case measure=>rw[HG.out];omega
   case rel=>exact ⟨k+1,Zw lk ⟨un,ur⟩ s3,rfl,hlt,by go_num,HSN3,HFIN,HXC⟩
  ·obtain rfl:k=A.length:=by omega
   have hkk:¬ (A.length:Int)<(A.length:Int):=by omega
   rw[List.take_length] at HS HK
   obtain ⟨wr1,hrange,hit,hbr,hzr⟩:=(HMP.out.ext HX.out (by omega)).range (P:=Tryz.prog) Ua
   have c0k:=HX.out.keep c0 (by omega)
   have d1k:=HX.out.keep d1 (by omega)
   have HS2:=Jh (HS.out.ext (Ext.of_below (S:=fun _=>False) hbr) (fun f=>f))
   have HK2:=Jh (HK.out.ext (Ext.of_below (S:=fun _=>False) hbr) (fun f=>f) (fun _ _ f=>f))
   have HX2:=Jh (HX.out.andThen (Ext.of_below (S:=fun _=>False) hbr) (fun _ _ f=>f.elim))
   have HIT:=Lib.hid hit
   have HGT:=Jh (Gth.start HND.out)
   obtain ⟨r,hr⟩:=Je (wr.heap.size)
   rw[hr] at hrange HIT hzr
   have hrB:w.heap.size+3≤r:=by omega
   clear hlt hk hit hbr HS HK HX hr
   go_wp2_with fail
   clear hrange
   go_loopg [53] ps.length (fun g rv wx=>∃ (left done:List (St × Spn)) (cur:Option (St × Spn)) (C:List Ch) (lk:List (St × Sl)),g=left.length∧Hid ((done++left).Perm ps)∧Hid (ZD St.val Spn.val wx r pb ps left cur)∧Hid (Gth A (fun s=>s∈done.map (·.1)) C)∧C.length≤A.length+done.length∧done.length+left.length=ps.length∧Hid (YH wx (w.heap.size+1) (A.length+1+done.length) C)∧Hid (KM (w.heap.size+3) wx kb (Y8 C) lk)∧Hid (Ext (fun i=>i=w.heap.size+1∨i=kb) w1 wx))
   case atStart=>exact ⟨ps,[],none,A,lk,rfl,Jh (List.Perm.refl _),HIT,Jh (HGT.out.mono (fun s=>by simp)),by omega,by simp,HS2,HK2,HX2⟩
   case round =>
    clear HIT HGT HS2 HK2 HX2
    obtain ⟨left,done,cur,C,lk,hg,HP,HI,HT,hC,hdl,HS,HK,HX⟩:=hrel
    have HG:=Lib.hid hg
    have hxz:=HX.out.size
    have hrI:r<wr.heap.size:=HI.out.lt.1
    clear hg
    rcases HI.out.next (P:=Tryz.prog) (by omega) with ⟨hnil,hnx⟩|⟨i,p,w2,hip,hnx,hiter2,hx2,hs2⟩
    ·subst hnil
     have hdn:done.Perm ps:=by have:=HP.out;rwa [List.append_nil] at this
     have HT2:Hid (Gth A (fun s=>s∈ps.map (·.1)) C):=Jh (HT.out.mono (fun s=>(hdn.map _).mem_iff))
     have hdl2:done.length=ps.length:=hdn.length_eq
     rw[hdl2] at HS hC
     clear hdn HP HI HT hdl hdl2
     go_wp2_with fail
     clear hnx
     go_loopg [57] A.length (fun g iv wx=>∃ (k:Nat) (C:List Ch) (lk:List (St × Sl)),g=A.length - k∧k≤A.length∧iv=.int .i64 k∧Hid (Gth A (fun s=>s∈ps.map (·.1)∨∃ d∈A.take k,d.under=s) C)∧C.length≤A.length+ps.length+k∧Hid (YH wx (w.heap.size+1) (A.length+1+ps.length+k) C)∧Hid (KM (w.heap.size+3) wx kb (Y8 C) lk)∧Hid (Ext (fun i=>i=w.heap.size+1∨i=kb) w1 wx))
     case atStart=>exact ⟨0,C,lk,rfl,Nat.zero_le _,rfl,Jh (HT2.out.mono (fun s=>by simp)),by omega,HS,HK,HX⟩
     case round =>
      clear HT2 HS HK HX hC hxz hrI
      obtain ⟨k,C,lk,hg,hk,rfl,HT,hC,HS,HK,HX⟩:=hrel
      have HG:=Lib.hid hg
      have hxz:=HX.out.size
      clear hg
      by_cases hlt:k<A.length
      ·obtain ⟨x,hx⟩:∃ x,A[k]?=some x:=⟨_,List.getElem?_eq_getElem hlt⟩
       obtain ⟨ba,oa,ca1,e1,hcs⟩:=HV1.out.dcells (by intro e;rw[e] at hlt;simp at hlt)
       cases e1
       obtain ⟨x0,x1,x2,x3,x4⟩:=hcs k x hx
       have hba:ba<w.heap.size+3:=by have:=Zy x0;omega
       have hbn:¬ (ba=w.heap.size+1∨ba=kb):=fun e=>by
        rcases e with e|e
        ·obtain ⟨ls,hls,_⟩:=SN1.out
         obtain ⟨_,es,cl,h,_⟩:=hls
         simp only[World.cell?,e,h] at x0
         cases x0
        ·obtain ⟨_,es,cl,h,_⟩:=KM1.out.map
         simp only[World.cell?,e,h] at x0
         cases x0
       replace x0:=HX.out.keep x0 hbn
       replace x1:=HX.out.keep x1 hbn
       replace x2:=HX.out.keep x2 hbn
       replace x3:=HX.out.keep x3 hbn
       replace x4:=HX.out.keep x4 hbn
       have c0k:=HX.out.keep c0 (by omega)
       have c2k:=HX.out.keep c2 (by omega)
       have d2k:=HX.out.keep d2 (by omega)
       obtain ⟨⟨xn,xr⟩,⟨un,ur⟩,xk⟩:=x
       simp only at x0 x1 x2 x3 x4
       have HX0:=Lib.hid hx
       clear hx hcs
       have hkk:(k:Int)<(A.length:Int):=by omega
       have hk0:(0:Int)≤(k:Int):=by omega
       have hza:(wr.alloc (.cells #[.int .i64 xn,.int .i64 xr,.int .i64 un,.int .i64 ur,.string xk] 53)).heap.size=wr.heap.size+1:=by simp
       have HMA:=Jh (Ta (w.heap.size+3) (w.heap.size+2) (w.heap.size+1) w.heap.size bb kb (A.length+1+ps.length+k) C lk un ur (wr.alloc (.cells #[.int .i64 xn,.int .i64 xr,.int .i64 un,.int .i64 ur,.string xk] 53)) (Z2 c2k _) (Z2 c0k _) (Z2 d2k _) (HS.out.ext ((Ext.refl (fun _=>False) _).alloc _) (fun f=>f)) (HK.out.ext ((Ext.refl (fun _=>False) _).alloc _) (fun f=>f) (fun _ _ f=>f)) (by omega) (fun h=>by have:=h.1;omega) (fun h=>by have:=h.1;omega) (by omega) (by omega) (by omega))
       have HXA:Hid (Ext (fun i=>i=w.heap.size+1∨i=kb) w1 (wr.alloc (.cells #[.int .i64 xn,.int .i64 xr,.int .i64 un,.int .i64 ur,.string xk] 53))):=Jh (HX.out.alloc _)
       clear HS HK HX c0k c2k d2k
       go_wp2_with fail
       refine HMA.out.mono ?_
       rintro e w5 ⟨rfl,hs5,⟨lk5,hk5⟩,hx5⟩
       have hml:=Um C ⟨un,ur⟩
       have HT5:Hid (Gth A (fun s=>s∈ps.map (·.1)∨∃ d∈A.take (k+1),d.under=s) (Xl C ⟨un,ur⟩)):=Jh ((HT.out.more ⟨un,ur⟩).mono (fun s=>by
        rw[List.take_add_one,HX0.out]
        constructor
        ·rintro ((h|⟨d,hd,e⟩)|rfl)
         ·exact .inl h
         ·exact .inr ⟨d,List.mem_append_left _ hd,e⟩
         ·exact .inr ⟨⟨⟨xn,xr⟩,⟨un,ur⟩,xk⟩,by simp,rfl⟩
        ·rintro (h|⟨d,hd,e⟩)
         ·exact .inl (.inl h)
         ·rcases List.mem_append.1 hd with hd|hd
          ·exact .inl (.inr ⟨d,hd,e⟩)
          ·simp at hd;subst hd;exact .inr e.symm))
       have HX5:Hid (Ext (fun i=>i=w.heap.size+1∨i=kb) w1 w5):=Jh (HXA.out.andThen hx5 (fun i hi e=>by
        rcases e with e|e|e
        ·exact .inl e
        ·exact .inr e
        ·have:=e.1;omega))
       have HS5:=Lib.hid hs5
       have HK5:=Lib.hid hk5
       clear hs5 hk5 hx5 HMA HXA x0 x1 x2 x3 x4
       go_wp2_with fail
       go_roundg (A.length - (k+1))
       case measure=>rw[HG.out];omega
       case rel=>exact ⟨k+1,Xl C ⟨un,ur⟩,lk5,rfl,hlt,by go_num,HT5,by omega,HS5,HK5,HX5⟩
      ·obtain rfl:k=A.length:=by omega
       have hkk:¬ (A.length:Int)<(A.length:Int):=by omega
       rw[List.take_length] at HT
       obtain ⟨wr1,hrange,hit,hbr,hzr⟩:=HK.out.map.range (P:=Tryz.prog) Xp
       have c0k:=HX.out.keep c0 (by omega)
       have d2k:=HX.out.keep d2 (by omega)
       have HK2:=Jh (HK.out.ext (Ext.of_below (S:=fun _=>False) hbr) (fun f=>f) (fun _ _ f=>f))
       have HX2:=Jh (HX.out.andThen (Ext.of_below (S:=fun _=>False) hbr) (fun _ _ f=>f.elim))
       have HIT:=Lib.hid hit
       obtain ⟨r2,hr⟩:∃ r,wr.heap.size=r:=⟨_,rfl⟩
       rw[hr] at hrange HIT hzr
       have hrB2:w.heap.size+3≤r2:=by omega
       clear hlt hk hit hbr HS HK HX hr
       go_wp2_with fail
       clear hrange
       go_loopg [75] lk.length (fun g rv wx=>∃ (left done:List (St × Sl)) (cur:Option (St × Sl)) (F:St→List Ch),g=left.length∧Hid ((done++left).Perm lk)∧Hid (ZD St.val Sl.val wx r2 kb lk left cur)∧Hid (KM (w.heap.size+3) wx kb F lk)∧Hid (∀ u,(F u).Perm (Y8 C u))∧Hid (∀ u,(∀ p∈left,p.1≠u)→(F u).Pairwise Yt)∧Hid (Ext (fun i=>i=w.heap.size+1∨i=kb) w1 wx))
       case atStart=>exact ⟨lk,[],none,Y8 C,rfl,Jh (List.Perm.refl _),HIT,HK2,Jh (fun u=>List.Perm.refl _),Jh (fun u hu=>by
        have:Z3 lk u=none:=by
         cases e:Z3 lk u with
         | none=>rfl
         | some s=>exact absurd rfl (hu _ (QK e))
        rw[HK2.out.non u this]
        exact List.Pairwise.nil),HX2⟩
       case round =>
        clear HIT HK2 HX2 hxz
        obtain ⟨left,done,cur,F,hg,HP,HI,HK,HF,HO,HX⟩:=hrel
        have HG:=Lib.hid hg
        have hxz:=HX.out.size
        have hrI:r2<wr.heap.size:=HI.out.lt.1
        clear hg
        have hkl2:=HK.out.map.lt
        rcases HI.out.next (P:=Tryz.prog) (by omega) with ⟨hnil,hnx⟩|⟨i,p,w2,hip,hnx,hiter2,hx2,hs2⟩
        ·subst hnil
         have HFIN:Hid (UM kb A ps w (.returned (.tuple #[])) wr):=Lib.hid ⟨rfl,C,F,lk,HT.out,HK.out.le (by omega),fun u=>⟨HF.out u,HO.out u (by simp)⟩,?_⟩
         rotate_left
         ·refine ⟨HX.out.os.trans HB1.out.os,HX.out.tape.trans HB1.out.tape,HX.out.output.trans HB1.out.output,Nat.le_trans HB1.out.size HX.out.size,fun j hj hn=>?_⟩
          exact (HX.out.block j (by omega) (fun e=>by rcases e with e|e;omega;exact hn e)).trans (HB1.out.block j hj)
         clear HX HK HF HO HI HP hrI
         go_wp2_with fail
         go_end0
         exact HFIN.out
        ·obtain ⟨⟨pn,pr⟩,⟨sa,sm,sc⟩⟩:=p
         simp only[St.val,Sl.val] at hnx
         have hpl:(((⟨pn,pr⟩,⟨sa,sm,sc⟩):St × Sl))∈lk:=HP.out.mem_iff.1 (List.mem_append_right _ (List.mem_of_getElem? hip))
         have hag:Z3 lk ⟨pn,pr⟩=some ⟨sa,sm,sc⟩:=Qg HK.out.map.1 hpl
         have hen:∀ W,ZD St.val Sl.val W r2 kb lk (left.eraseIdx i) (some (⟨pn,pr⟩,⟨sa,sm,sc⟩))→(Instr.entry (.pointer (some ⟨r2,0,none⟩))).run Tryz.prog W=.ok (.tuple #[.agg #[.int .i64 pn,.int .i64 pr],.slice sa sm sc]) W:=fun W hW=>hW.entry
         have hen2:=hen w2 hiter2
         have k2:=HK.out.ext hx2 (by omega) (fun b hb e=>by
          obtain ⟨_,cu,hc⟩:=hb
          obtain ⟨_,es,cl,sn,_,hri,_⟩:=HI.out
          rw[e,hri] at hc
          cases hc)
         have hro:=k2.row _ _ hag
         have hrl:(F ⟨pn,pr⟩).length≤C.length:=by have:=(HF.out ⟨pn,pr⟩).length_eq;have:=Vr C ⟨pn,pr⟩;omega
         have HSO:=Jh (TZ hro (by omega))
         have hbl2:=fun b (hb:(Value.slice sa sm sc).ownBlock=some b)=>k2.blk hag hb
         have hiB:¬ ((Value.slice sa sm sc).ownBlock=some r2):=fun e=>by
          obtain ⟨_,cu,hc⟩:=(hbl2 _ e).1
          obtain ⟨_,es,cl,sn,_,hri,_⟩:=hiter2
          rw[hri] at hc
          cases hc
         have hX2:Ext (fun i=>i=w.heap.size+1∨i=kb) w1 w2:=HX.out.andThen hx2 (fun i hi e=>by omega)
         have hK2:=Lib.hid k2
         have HI2:=Lib.hid hiter2
         have HX2:=Lib.hid hX2
         have HIP:=Lib.hid hip
         have hbl3:∀ b,(Value.slice sa sm sc).ownBlock=some b→w.heap.size+3≤b∧b≠kb:=fun b hb=>⟨(hbl2 b hb).1.1,(hbl2 b hb).2⟩
         have HBL:=Lib.hid hbl3
         have HR2:=Lib.hid hiB
         have hx2s:=hx2.size
         clear hen hro hbl2 hbl3 hiB hX2 k2 hiter2 hip hpl hx2 HX HI HK
         go_wp2_with fail
         refine HSO.out.mono ?_
         rintro e w5 ⟨rfl,l5,hp5,ho5,hown5,hx5⟩
         have HK5:=Jh (hK2.out.sort hag hx5 hown5)
         have HI5:=Jh (HI2.out.ext hx5 HR2.out (fun e=>(HBL.out _ e).2 rfl))
         have HX5:=Jh (HX2.out.andThen hx5 (fun i hi e=>by have:=(HBL.out _ e).1;omega))
         have hpf:l5.Perm (Y8 C ⟨pn,pr⟩):=hp5.trans (HF.out ⟨pn,pr⟩)
         have hnd5:l5.Pairwise (fun a b=>a.block≠b.block):=hpf.symm.pairwise (HT.out.nodup.filter _) (fun h e=>h e.symm)
         have hso5:l5.Pairwise Yt:=(List.pairwise_and_iff.2 ⟨ho5,hnd5⟩).imp (fun {a b} h=>by
          obtain ⟨h1,h2⟩:=h
          simp only[ltOf,decide_eq_false_iff_not,Xe] at h1
          rcases S1 a b with t|t|t
          ·exact t
          ·exact absurd t h2
          ·exact absurd t h1)
         have HF5:Hid (∀ u,(X1 F ⟨pn,pr⟩ l5 u).Perm (Y8 C u)):=Jh (fun u=>by
          unfold X1
          split
          ·rename_i e;subst e;exact hpf
          ·exact HF.out u)
         have HP5:Hid ((((done++[((⟨pn,pr⟩,⟨sa,sm,sc⟩):St × Sl)]))++left.eraseIdx i).Perm lk):=Jh (by
          rw[List.append_assoc]
          exact (List.Perm.append_left done (XE HIP.out).symm).trans HP.out)
         have HO5:Hid (∀ u,(∀ p∈left.eraseIdx i,p.1≠u)→(X1 F ⟨pn,pr⟩ l5 u).Pairwise Yt):=Jh (fun u hu=>by
          unfold X1
          split
          ·exact hso5
          ·rename_i hne2
           refine HO.out u (fun p hp e=>?_)
           rcases List.mem_cons.1 ((XE HIP.out).mem_iff.1 hp) with h|h
           ·rw[h] at e;exact hne2 e.symm
           ·exact hu p h e)
         have hml:(left.eraseIdx i).length<left.length:=by
          rw[List.length_eraseIdx]
          have:=(List.getElem?_eq_some_iff.1 HIP.out).1
          rw[if_pos this];omega
         clear hp5 ho5 hown5 hx5 hpf hnd5 hso5 HSO
         go_wp2_with fail
         go_roundg (left.eraseIdx i).length
         case measure=>rw[HG.out];exact hml
         case rel=>exact ⟨left.eraseIdx i,_,_,_,rfl,HP5,HI5,HK5,HF5,HO5,HX5⟩
    ·obtain ⟨⟨pn,pr⟩,⟨⟨sn,sr⟩,slo,shi⟩⟩:=p
     simp only[St.val,Spn.val] at hnx
     have hen:∀ W,ZD St.val Spn.val W r pb ps (left.eraseIdx i) (some (⟨pn,pr⟩,⟨⟨sn,sr⟩,slo,shi⟩))→(Instr.entry (.pointer (some ⟨r,0,none⟩))).run Tryz.prog W=.ok (.tuple #[.agg #[.int .i64 pn,.int .i64 pr],.agg #[.int .i64 sn,.int .i64 sr,.int .i64 slo,.int .i64 shi]]) W:=fun W hW=>hW.entry
     have hen2:=hen w2 hiter2
     have k2:=HK.out.ext hx2 (by omega) (fun b hb e=>by
      obtain ⟨_,cu,hc⟩:=hb
      obtain ⟨_,es,cl,sn,_,hri,_⟩:=HI.out
      rw[e,hri] at hc
      cases hc)
     have s2:=HS.out.ext hx2 (by omega)
     have hX2:Ext (fun i=>i=w.heap.size+1∨i=kb) w1 w2:=HX.out.andThen hx2 (fun i hi e=>by omega)
     have c0k:=hX2.keep c0 (by omega)
     have c2k:=hX2.keep c2 (by omega)
     have d2k:=hX2.keep d2 (by omega)
     have HI2:=Jh (hiter2.alloc (.cells #[.int .i64 pn,.int .i64 pr] 23))
     have HIP:=Lib.hid hip
     have hx2s:=hx2.size
     have hza:(w2.alloc (.cells #[.int .i64 pn,.int .i64 pr] 23)).heap.size=w2.heap.size+1:=by simp
     have HMA:=Jh (Ta (w.heap.size+3) (w.heap.size+2) (w.heap.size+1) w.heap.size bb kb (A.length+1+done.length) C lk pn pr (w2.alloc (.cells #[.int .i64 pn,.int .i64 pr] 23)) (Z2 c2k _) (Z2 c0k _) (Z2 d2k _) (s2.ext ((Ext.refl (fun _=>False) _).alloc _) (fun f=>f)) (k2.ext ((Ext.refl (fun _=>False) _).alloc _) (fun f=>f) (fun _ _ f=>f)) (by omega) (fun h=>by have:=h.1;omega) (fun h=>by have:=h.1;omega) (by omega) (by omega) (by omega))
     have HXA:Hid (Ext (fun i=>i=w.heap.size+1∨i=kb) w1 (w2.alloc (.cells #[.int .i64 pn,.int .i64 pr] 23))):=Jh (hX2.alloc _)
     have hml:(left.eraseIdx i).length+1=left.length:=by
      rw[List.length_eraseIdx]
      have:=(List.getElem?_eq_some_iff.1 HIP.out).1
      rw[if_pos this];omega
     clear hen k2 s2 hX2 c0k c2k d2k hiter2 hip hx2 HX HI HK HS
     go_wp2_with fail
     refine HMA.out.mono ?_
     rintro e w5 ⟨rfl,hs5,⟨lk5,hk5⟩,hx5⟩
     have hmC:=Um C ⟨pn,pr⟩
     have HT5:Hid (Gth A (fun s=>s∈(done++[((⟨pn,pr⟩,⟨⟨sn,sr⟩,slo,shi⟩):St × Spn)]).map (·.1)) (Xl C ⟨pn,pr⟩)):=Jh ((HT.out.more ⟨pn,pr⟩).mono (fun s=>by simp))
     have HX5:Hid (Ext (fun i=>i=w.heap.size+1∨i=kb) w1 w5):=Jh (HXA.out.andThen hx5 (fun i hi e=>by
      rcases e with e|e|e
      ·exact .inl e
      ·exact .inr e
      ·have:=e.1;omega))
     have HI5:=Jh (HI2.out.ext hx5 (fun e=>by
      rcases e with e|e|⟨_,cu,hc⟩
      ·omega
      ·omega
      ·obtain ⟨_,es,cl,sn,_,hri,_⟩:=HI2.out
       rw[hri] at hc
       cases hc) (fun e=>by
      rcases e with e|e|e
      ·omega
      ·omega
      ·have:=e.1;omega))
     have HP5:Hid ((((done++[((⟨pn,pr⟩,⟨⟨sn,sr⟩,slo,shi⟩):St × Spn)]))++left.eraseIdx i).Perm ps):=Jh (by
      rw[List.append_assoc]
      exact (List.Perm.append_left done (XE HIP.out).symm).trans HP.out)
     have HS5:=Lib.hid hs5
     have HK5:=Lib.hid hk5
     have hdn:(done++[((⟨pn,pr⟩,⟨⟨sn,sr⟩,slo,shi⟩):St × Spn)]).length=done.length+1:=by simp
     clear hs5 hk5 hx5 HMA HXA
     go_wp2_with fail
     go_roundg (left.eraseIdx i).length
     case measure=>rw[HG.out];omega
     case rel=>exact ⟨left.eraseIdx i,_,_,_,lk5,rfl,HP5,HI5,HT5,by rw[hdn];omega,by rw[hdn];omega,by rw[hdn];exact HS5,HK5,HX5⟩
theorem Zf.monoL {α:Type} {D D':Nat→Prop} {ea:α→List Value} {k:Nat} {W:World} {v:Value} {l:List α} (h:Zf D ea k W v l) (hk:∀ x,0<(ea x).length) (hd:∀ b,D b→b<W.heap.size→D' b):Zf D' ea k W v l:=by
 refine ⟨h.1,fun b o n c e hl=>hd b (h.2 b o n c e hl) ?_⟩
 obtain ⟨a,cap,rfl,h2,h3,h4⟩:=h.1
 obtain ⟨b',off,rfl,h6⟩:=h4 hl
 cases e
 obtain ⟨x,hx⟩:∃ x,l[0]?=some x:=by
  cases l with
  | nil=>exact absurd rfl hl
  | cons x r=>exact ⟨x,rfl⟩
 exact Zy (h6 0 x hx 0 _ (List.getElem?_eq_getElem (hk x)))
theorem ZN.monoL {D D':Nat→Prop} {W:World} {u:Value} {P:Pcs} (h:ZN D W u P) (hd:∀ b,D b→b<W.heap.size→D' b):ZN D' W u P:=by
 obtain ⟨vs,h1,h2,h3⟩:=h
 refine ⟨vs,h1.monoL (fun _=>Nat.zero_lt_succ 1) hd,h2,fun j x hj=>?_⟩
 obtain ⟨al,h4,h5⟩:=h3 j x hj
 exact ⟨al,h4,h5.monoL (fun _=>Nat.zero_lt_succ 1) hd⟩
theorem Zh.monoL {D D':Nat→Prop} {W:World} {x:NdV} {n:Nd} (h:Zh D W x n) (hd:∀ b,D b→b<W.heap.size→D' b):Zh D' W x n:=by
 induction h with
 | mk x al P vs ks h1 h2 h3 h4 h5 ih=>exact .mk x al P vs ks (h1.monoL (fun _=>Nat.zero_lt_succ 1) hd) (h2.monoL hd) (h3.monoL (fun _=>Nat.zero_lt_succ 5) hd) h4 ih
theorem Zc.monoL {D D':Nat→Prop} {W:World} {vs:List NdV} {ks:List Nd} (h:Zc D W vs ks) (hd:∀ b,D b→b<W.heap.size→D' b):Zc D' W vs ks:=⟨h.1,fun i y n h1 h2=>(h.2 i y n h1 h2).monoL hd⟩
def Vo (W:World) (L:List Atr) (e:Ending) (w':World):Prop:=∃ v,e=.returned v∧Own Atr.cells 2 73 W.heap.size w' v L∧L.length≤1000000∧Below W.heap.size W w'
structure Bl where
 bb:Nat
 pb:Nat
 kb:Nat
 va:Option Addr
 ca:Nat
 vb:Option Addr
 cb:Nat
 gv:Value
 l:List El
 ms:List OpD
structure BIs (W:World) (b:Bl) (V:Vw):Prop where
 c0:W.cell? ⟨b.bb,0,none⟩=some (.slice b.va b.l.length b.ca)
 c1:W.cell? ⟨b.bb,1,none⟩=some (.map (some b.pb))
 c2:W.cell? ⟨b.bb,2,none⟩=some (.map (some b.kb))
 c3:W.cell? ⟨b.bb,3,none⟩=some b.gv
 c4:W.cell? ⟨b.bb,4,none⟩=some (.slice b.vb b.ms.length b.cb)
 el:Z6 El.cells 4 W (.slice b.va b.l.length b.ca) b.l
 op:Z6 OpD.cells 26 W (.slice b.vb b.ms.length b.cb) b.ms
 ln:b.l.length≤1000∧b.ms.length≤1000
 pm:∃ ps,Z4 St.val Spn.val W b.pb ps∧∀ u,Z3 ps u=YG b.l u
 km:∃ lk,Z4 St.val Sl.val W b.kb lk∧(∀ u s,Z3 lk u=some s→Z6 Ch.cells 5 W s.val (Yc V.H u))∧∀ u,Z3 lk u=none→Yc V.H u=[]
 rg:∀ W',Below W.heap.size W W'→∀ u:St,Calls Tryz.prog 44 #[b.gv,.agg #[.int .i64 u.n,.int .i64 u.r]] W' fun e w'=>Vo W' (V.regs u) e w'
 lv:∀ u,V.live u=(YG b.l u).isSome
 tx:∀ u s,YG b.l u=some s→V.txt u=YI b.l b.ms s.lo s.hi
theorem BIs.below {W W':World} {b:Bl} {V:Vw} (h:BIs W b V) (hb:Below W.heap.size W W'):BIs W' b V:=by
 obtain ⟨ps,p1,p2⟩:=h.pm
 obtain ⟨lk,k1,k2,k3⟩:=h.km
 exact ⟨Z0 hb h.c0,Z0 hb h.c1,Z0 hb h.c2,Z0 hb h.c3,Z0 hb h.c4,h.el.below hb,h.op.below hb,h.ln,⟨ps,p1.below hb,p2⟩,⟨lk,k1.below hb,fun u s hs=>(k2 u s hs).below hb,k3⟩,fun W2 h2 u=>h.rg W2 (hb.trans (h2.mono hb.size)) u,h.lv,h.tx⟩
def U5 (V:Vw) (n:Nat) (u:St) (W:World) (e:Ending) (w':World):Prop :=
 ∃ v vs,e=.returned v∧Own NdV.cells 6 28 W.heap.size w' v vs∧Zc (fun k=>W.heap.size≤k∧v.ownBlock≠some k) w' vs (V.row n u)∧Below W.heap.size W w'
def Qe (V:Vw) (n:Nat) (u:St) (W:World) (e:Ending) (w':World):Prop :=
 ∃ x:NdV,e=.returned (.agg #[.int .i64 x.id.n,.int .i64 x.id.r,.string x.kind,.slice x.attrs.a x.attrs.n x.attrs.cap,.slice x.text.a x.text.n x.text.cap,.slice x.kids.a x.kids.n x.kids.cap])∧Zh (fun k=>W.heap.size≤k) w' x (V.nd u (V.row n u))∧Below W.heap.size W w'
theorem W9:(Tryz.prog.info? 28).map (fun i=>(i.zero,i.size,i.bytes))=some (some (.agg #[.int .i64 0,.int .i64 0,.string ⟨#[]⟩,.slice none 0 0,.slice none 0 0,.slice none 0 0]),6,104):=by kernel_rfl
section
variable {P:Program} {w:World} {α:Type} {ea:α→List Value} {k:Nat} {e:TypeId} {base base2:Nat} {v vx:Value} {l ys:List α}
theorem Wi (t ty:TypeId) (i:TypeInfo) (z:Value) (bytes:Nat) (ht:P.underlying t=some (.slice e)) (hi:P.info? e=some i) (hz:i.zero=some z)
  (hsize:i.size=k) (hby:i.bytes=bytes) (hzs:z.cells.size=k) (hk0:0<k) (hk:∀ x,(ea x).length=k) (h1:∀ x,∀ u∈ea x,u.oneCell'=true)
  (hown:Own ea k e base w v l) (hx:Own ea k e base2 w vx ys) (h63:l.length+ys.length≤maxLen) (hbytes:(l.length+ys.length)*bytes≤140737488355328) (hbase:base≤w.heap.size) :
  ∃ v' w',(Builtin.append_ #[t,t] ty #[v,vx]).run P w=.ok v' w'∧Own ea k e base w' v' (l++ys)∧Ext (fun b=>v.ownBlock=some b) w w'∧∀ b,v'.ownBlock=some b→v.ownBlock=some b∨w.heap.size≤b:=by
 have hx0:=hx
 obtain ⟨h2,h3⟩:=hx
 rcases h3 with ⟨rfl,hn⟩|⟨g2,c2,cu2,rfl,hb2,hg2,hr2⟩
 ·have hys:ys=[]:=List.eq_nil_of_length_eq_zero hn
  subst hys
  obtain ⟨sa,sc,rfl,hsc,_⟩:=hown.slice hk
  refine ⟨_,w,VR t ty i ht hi sa l.length sc 0 hsc,by rw[List.append_nil];exact hown,Ext.refl _ _,fun b hb=>.inl hb⟩
 ·have hnews:∀ j u,(ys.flatMap ea)[j]?=some u→w.cell? ((⟨g2,0,none⟩:Addr).add j)=some u:=World.ownsRow.cells (g:=g2) hx0 rfl
  have hone:∀ u∈ys.flatMap ea,u.oneCell'=true:=fun u hu=>by
   obtain ⟨x,_,hu⟩:=List.mem_flatMap.1 hu
   exact h1 x u hu
  obtain ⟨v',w',hr,h4,h5,h6⟩:=run_append_own (P:=P) w base t ty e i z k bytes ht hi hz hsize hby hzs hk0 v l.length (l.flatMap ea) hown ⟨g2,0,none⟩ ys.length c2 (ys.flatMap ea) h2 hnews hone h63 hbytes hbase
  refine ⟨v',w',hr,?_,Ext.of_grown h5,?_⟩
  ·unfold Own
   rw[List.length_append,List.flatMap_append]
   exact h4
  ·by_cases hy:ys.length=0
   ·subst hsize
    rcases hown.2 with ⟨rfl,hl0⟩|⟨g,cap,cur,rfl,hbg,hg,hnc,hcm,hcs,htake⟩
    ·rw[h6.2 ⟨rfl,hy⟩]
     intro b hb
     cases hb
    ·have hroom:l.length+ys.length≤cap:=by omega
     have hfit:l.length*i.size+(ys.flatMap ea).length≤cur.size:=by rw[h2,hcs,←Nat.add_mul];exact Nat.mul_le_mul_right _ hroom
     have hr3:=run_append_room (P:=P) w t ty e i ht hi g l.length cap cur hg ⟨g2,0,none⟩ ys.length c2 (ys.flatMap ea) h2 hnews hone hroom hfit
     rw[hr] at hr3
     cases hr3
     intro b hb
     simp[Value.ownBlock] at hb ⊢
     exact .inl hb
   ·exact VZ t ty i z k bytes ht hi hz hsize hby v l.length (l.flatMap ea) hown ⟨g2,0,none⟩ ys.length c2 (ys.flatMap ea) h2 hnews hone h63 hbytes (by omega) hr
end
def VD {U:Type} (P:Program) (n gf:Nat) (lb:Array Value) (encs:U→Array Value) (R:World→Nat→Prop) (Rs:Nat→Prop) (xs:List U) (w:World):Prop :=
 ∀ (l:Nat) (I:List U→World→Prop) (W:World),l=w.heap.size+1→W.heap.size=w.heap.size+2→Below w.heap.size w W→(∀ pre W W',I pre W→Ext Rs W W'→I pre W') →
  (∀ pre x W1,I pre W1→pre++[x] <+: xs→YieldAt Fence.wide (n - 1) P l (encs x) W1 fun e W'=>e=.returned (.bool true)∧I (pre++[x]) W'∧Ext (fun k=>k=l∨R W1 k) W1 W')→I [] W →
  CallsIn Fence.wide n P gf (#[.func (.yield l) #[] #[]]++lb) W fun e W'=>(∃ v,e=.returned v)∧I xs W'
theorem SX {U:Type} {P:Program} {n:Nat} (h1:1≤n) {g:Operand} {ps:Array Tmp} {assign body:Code} {Q:Exit→Act→World→Prop} {a:Act} {w:World} {gf:Nat} {lb:Array Value}
  (hg:a.eval g=.func (.func gf) #[] lb) (eg:∀ args w,(callFunc gf args).run P w=.ok (.enter gf args) w)
  (encs:U→Array Value) (hps:∀ x,(encs x).size=ps.size) (R:World→Nat→Prop) (Rs:Nat→Prop) (hR:∀ W k,R W k→k≠w.heap.size∧k≠w.heap.size+1) (hRm:∀ W W' k,W'.heap[k]?=W.heap[k]?→R W' k→R W k) (hRs:∀ k,Rs k→k≠w.heap.size∧k≠w.heap.size+1) (xs:List U)
  (J:List U→World→Prop) (hJ:∀ pre W W',J pre W→Ext (fun k=>k=w.heap.size∨k=w.heap.size+1∨Rs k) W W'→J pre W')
  (hseq:VD P (n - 1) gf lb encs R Rs xs w)
  (h00:J [] w)
  (hround:∀ (l:Nat) (pre:List U) (x:U) (W:World),J pre W→pre++[x] <+: xs→w.heap.size+1<W.heap.size →
   assign.wpIn (Fence.wide.inRound l) (n - 1 - 1) P (Exit.then (fun a₁ W₁=>Ext (fun _=>False) W W₁∧J pre W₁∧∀ W₂,J pre W₂→Ext (fun k=>k=w.heap.size+1) W₁ W₂→body.wpIn (Fence.wide.inRound l) (n - 1 - 1) P (Se (R W₂) (J (pre++[x])) W₂) a₁ W₂) (fun _ _ _=>False))
    { tmps:=(ps.zip (encs x)).foldl (fun t (p,v)=>t.setIfInBounds p v) a.tmps,defers:=[] } W)
  (hdone:∀ W,J xs W→W.heap[w.heap.size]?=some (.deferred (some []))→Q .normal { a with defers:={ target:=.collected w.heap.size,args:=#[] } :: a.defers } W) :
  (Code.rangeFunc g ps assign body).wpIn Fence.wide n P Q a w:=by
 refine wpIn_rangeFunc ?_
 intro fn hfn
 obtain ⟨rec,hrec⟩:∃ rec:LoopState→Option Code→Loop,rec=fun st pe=>{ state:=st,pending:=pe,fn,tmps:=a.tmps,params:=ps,assign,body,defers:=w.heap.size }:=⟨_,rfl⟩
 obtain ⟨W1,hW1⟩:=Je ((w.alloc (.deferred (some []))).alloc (.loop (rec .ready none)))
 have hL1:W1.heap[w.heap.size+1]?=some (.loop (rec .ready none)):=by
  rw[←hW1];have:=World.alloc_heap_new (w.alloc (.deferred (some []))) (.loop (rec .ready none));rwa [World.size_alloc] at this
 have hK1:W1.heap[w.heap.size]?=some (.deferred (some [])):=by
  rw[←hW1];exact (Below.heap_alloc _ _ _ (by simp)).trans (World.alloc_heap_new w _)
 have hb1:Below w.heap.size w W1:=by
  rw[←hW1];exact (((Below.refl _ w).alloc (Nat.le_refl _) _).alloc (by simp) _)
 have hJ1:J [] W1:=hJ _ _ _ h00 (Ext.of_below hb1)
 refine ⟨w.heap.size+1,[{ target:=.collected w.heap.size,args:=#[] }],W1,{ target:=.fn (.func gf) lb,args:=#[.func (.yield (w.heap.size+1)) #[] #[]] },W1,gf,
  #[.func (.yield (w.heap.size+1)) #[] #[]]++lb,W1,?_,?_,?_,?_,fun _=>h1,?_⟩
 ·rw[←hW1,hrec];exact run_enterLoop_outer _ _ _ _ _
 ·simp only[resolve,hg]
  simp[go_sem]
 ·intro f' hf';trivial
 ·simp[invoke,go_sem,eg]
 ·refine (hseq (w.heap.size+1)
   (fun pre W=>J pre W∧W.heap[w.heap.size+1]?=some (.loop (rec .ready none))∧W.heap[w.heap.size]?=some (.deferred (some [])))
   W1 rfl (by rw[←hW1];simp) hb1
   (fun pre A B hs hx=>⟨hJ _ _ _ hs.1 (hx.mono (fun _ _ f=>.inr (.inr f))),(hx.block _ (Array.getElem?_eq_some_iff.1 hs.2.1).1 (fun e=>(hRs _ e).2 rfl)).trans hs.2.1,(hx.block _ (Array.getElem?_eq_some_iff.1 hs.2.2).1 (fun e=>(hRs _ e).1 rfl)).trans hs.2.2⟩)
   ?_ ⟨hJ1,hL1,hK1⟩).mono ?_
  ·rintro pre x W ⟨hi,hl,hk⟩ hpx
   have hlt:w.heap.size+1<W.heap.size:=(Array.getElem?_eq_some_iff.1 hl).1
   have hy:=run_yield (P:=P) (args:=encs x) hl (by rw[hrec];exact hps x)
   rw[hrec] at hy
   refine ⟨fn,_,assign,body,hy,roundIn_of_wpIn hfn (wpIn_mono (hround _ pre x W hi hpx hlt) ?_)⟩
   rintro e a1 W' hp
   cases e with
   | normal =>
    obtain ⟨hxa,hja,hbody⟩:=hp
    have hla:=(hxa.block _ hlt id).trans hl
    have hka:=(hxa.block _ (by omega) id).trans hk
    have hlt':w.heap.size+1<W'.heap.size:=(Array.getElem?_eq_some_iff.1 hla).1
    refine ⟨_,run_beginRound hla (by rw[hrec]),?_⟩
    have hl2:(W'.putObj (w.heap.size+1) (.loop { rec .ready none with state:=.busy })).heap[w.heap.size+1]?=some (.loop { rec .ready none with state:=.busy }):=World.putObj_heap_same hlt'
    have hk2:(W'.putObj (w.heap.size+1) (.loop { rec .ready none with state:=.busy })).heap[w.heap.size]?=some (.deferred (some [])):=(World.putObj_heap_other (by omega)).trans hka
    have hx2:Ext (fun k=>k=w.heap.size+1) W' (W'.putObj (w.heap.size+1) (.loop { rec .ready none with state:=.busy })):=ZQ _ _ _
    have hmono:∀ {A B:World},Ext (fun k=>k=w.heap.size+1) A B→Ext (fun k=>k=w.heap.size∨k=w.heap.size+1∨Rs k) A B:=fun hx=>hx.mono (fun k _ hk=>.inr (.inl hk))
    refine wpIn_mono (hbody _ (hJ _ _ _ hja (hmono hx2)) hx2) ?_
    have s1:=(Array.getElem?_eq_some_iff.1 hl2).1
    have s0:=(Array.getElem?_eq_some_iff.1 hk2).1
    have nR1:∀ A,¬ R A (w.heap.size+1):=fun A h=>(hR _ _ h).2 rfl
    have nR0:∀ A,¬ R A w.heap.size:=fun A h=>(hR _ _ h).1 rfl
    rintro e a3 W3 hp
    cases e with
    | normal =>
     obtain ⟨hj3,hx3⟩:=hp
     have hl3:=(hx3.block _ s1 (nR1 _)).trans hl2
     have hk3:=(hx3.block _ s0 (nR0 _)).trans hk2
     have hr:=run_endRound (P:=P) none hl3
     rw[hrec] at hr
     refine ⟨_,_,hr,rfl,⟨hJ _ _ _ hj3 (hmono (ZQ _ _ _)),?_,(World.putObj_heap_other (by omega)).trans hk3⟩,?_⟩
     ·rw[hrec];exact World.putObj_heap_same (Array.getElem?_eq_some_iff.1 hl3).1
     ·have e12:Ext (fun k=>k=w.heap.size+1) W (W'.putObj (w.heap.size+1) (.loop { rec .ready none with state:=.busy })):=(hxa.mono (fun _ _ f=>f.elim)).trans hx2
      have e3:Ext (fun k=>k=w.heap.size+1∨R W k) W W3:=(e12.mono (fun _ _ h=>.inl h)).andThen hx3 (fun i hi ht=>by
       by_cases e:i=w.heap.size+1
       ·exact .inl e
       ·exact .inr (hRm _ _ _ (e12.block i hi e) ht))
      exact e3.trans ((ZQ _ _ _).mono (fun _ _ h=>.inl h))
    | ret=>exact hp.elim
    | exit id=>exact hp.elim
    | goto t=>exact hp.elim
    | panic ch=>exact hp.elim
    | outgrown=>exact hp.elim
   | ret=>exact hp.elim
   | exit id=>exact hp.elim
   | goto t=>exact hp.elim
   | panic ch=>exact hp.elim
   | outgrown=>exact hp.elim
  ·rintro e W2 ⟨⟨v,rfl⟩,hi,hl,hk⟩
   refine ⟨none,_,by have:=run_endLoop (P:=P) hl (by rw[hrec];simp);rw[hrec] at this;exact this,hdone _ (hJ _ _ _ hi ?_) ((World.putObj_heap_other (by omega)).trans hk)⟩
   have hx:=ZQ W2 (w.heap.size+1) (.loop { (rec .ready none) with state:=.exhausted })
   rw[hrec] at hx
   exact hx.mono (fun k _ hk=>.inr (.inl hk))
attribute [local go_sem] Oper.semAt_some
theorem TD (va:Option Addr) (m vc:Nat) (w:World):Calls Tryz.prog 63 #[.slice va m vc] w
  fun e w'=>e=.returned (.func (.func 91) #[] #[.pointer (some ⟨w.heap.size,0,none⟩)])∧w'=w.alloc (.cells #[.slice va m vc] 34):=by
 go_enter Tryz.func63,Tryz.ntmps63
 go_wp2_with fail
 go_ret
 exact ⟨rfl,rfl⟩
def SpB (W:World) (b:Nat) (s:St) (lo hi:Int):Prop:=W.heap[b]?=some (.cells #[.int .i64 s.n,.int .i64 s.r,.int .i64 lo,.int .i64 hi] 109 (0,0))
theorem SpB.lt {W:World} {b:Nat} {s:St} {lo hi:Int} (h:SpB W b s lo hi):b<W.heap.size:=(Array.getElem?_eq_some_iff.1 h).1
theorem SpB.cells {W:World} {b:Nat} {s:St} {lo hi:Int} (h:SpB W b s lo hi):W.cell? ⟨b,0,none⟩=some (.int .i64 s.n)∧W.cell? ⟨b,1,none⟩=some (.int .i64 s.r)∧W.cell? ⟨b,2,none⟩=some (.int .i64 lo)∧W.cell? ⟨b,3,none⟩=some (.int .i64 hi)∧∀ i,W.frozen? ⟨b,i,none⟩=false:=by
 have h:=show W.heap[b]?=_ from h
 refine ⟨?_,?_,?_,?_,fun i=>?_⟩ <;> simp[World.cell?,World.frozen?,h]
theorem SpB.ext {S:Nat→Prop} {W W':World} {b:Nat} {s:St} {lo hi:Int} (h:SpB W b s lo hi) (hx:Ext S W W') (hn:¬ S b):SpB W' b s lo hi:=(hx.block b h.lt hn).trans h
theorem SpB.setHi {W:World} {b:Nat} {s:St} {lo hi:Int} (h:SpB W b s lo hi) (k:Int):SpB (W.setCell ⟨b,3,none⟩ (.int .i64 k)) b s lo k:=by
 have h:=show W.heap[b]?=_ from h
 show (World.heap _)[b]?=_
 simp only[World.setCell,Array.getElem?_modify,if_true,h]
 rfl
theorem SpB.set {W:World} {b:Nat} {s:St} {lo hi:Int} (h:SpB W b s lo hi) (x y z u:Int):SpB ((((W.setCell ⟨b,0,none⟩ (.int .i64 x)).setCell ⟨b,1,none⟩ (.int .i64 y)).setCell ⟨b,2,none⟩ (.int .i64 z)).setCell ⟨b,3,none⟩ (.int .i64 u)) b ⟨x,y⟩ z u:=by
 have h:=show W.heap[b]?=_ from h
 show (World.heap _)[b]?=_
 simp only[World.setCell,Array.getElem?_modify,if_true,h]
 rfl
theorem Sc (l:List El) (n:Nat):∀ m,(cur l n).1 <+: (cur l (n+m)).1
 | 0=>List.prefix_refl _
 | m+1=>by
  refine (Sc l n m).trans ?_
  rw[←Nat.add_assoc,cur]
  split
  ·split
   ·exact List.prefix_append _ _
   ·exact List.prefix_refl _
  ·exact List.prefix_refl _
theorem Rw {l:List El} {n:Nat} (h:n≤l.length):(cur l n).1 <+: Ye l:=by
 have:=Sc l n (l.length - n)
 rw[show n+(l.length - n)=l.length by omega] at this
 exact this.trans (List.prefix_append _ _)
theorem US (n:Nat) (hn:1≤n) (Bs:Nat) (v:Value) (l:List El) (R:World→Nat→Prop) (w:World) (hv:Z6 El.cells 4 w v l) (hln:l.length≤1000) (hB:w.cell? ⟨Bs,0,none⟩=some v) (hRB:∀ A,¬ R A Bs) (hRs:∀ A,¬ R A (w.heap.size+2))
  (hRe:∀ A k cur,w.heap.size+2<k→A.heap[k]?=some (.cells cur 46 (0,0))→¬ R A k) (hRv:l≠[]→∀ b o m c,v=.slice (some ⟨b,o,none⟩) m c→(∀ A,¬ R A b)∧b<w.heap.size) :
  VD Tryz.prog n 91 #[.pointer (some ⟨Bs,0,none⟩)] (fun x:Spn=>#[.agg #[.int .i64 x.blk.n,.int .i64 x.blk.r,.int .i64 x.lo,.int .i64 x.hi]]) R (·=w.heap.size+2) (Ye l) w:=by
 intro lb I W hl hW hb hI hY h0
 obtain ⟨va,vc,rfl,hcap,hmax,hcs⟩:=id hv
 unfold maxLen at hmax
 have hBl:=Zy hB
 have HI:=Lib.hid hI
 have HY:=Lib.hid hY
 have HB:=Jh (Z0 hb hB)
 have HV:=Lib.hid hRv
 have hS0:Z6 El.cells 4 W (.slice va l.length vc) l:=hv.below hb
 have h0a:I [] (W.alloc (.cells #[.int .i64 0,.int .i64 0,.int .i64 0,.int .i64 0] 109)):=hI _ _ _ h0 ((Ext.refl _ _).alloc _)
 have hSB:SpB (W.alloc (.cells #[.int .i64 0,.int .i64 0,.int .i64 0,.int .i64 0] 109)) W.heap.size ⟨0,0⟩ 0 0:=World.alloc_heap_new W _
 have hs1:(W.alloc (.cells #[.int .i64 0,.int .i64 0,.int .i64 0,.int .i64 0] 109)).heap.size=w.heap.size+3:=by simp;omega
 have hb1:Below W.heap.size W (W.alloc (.cells #[.int .i64 0,.int .i64 0,.int .i64 0,.int .i64 0] 109)):=(Below.refl _ _).alloc (Nat.le_refl _) _
 have b1:=Z0 hb1 HB.out
 have hS1:=hS0.below hb1
 clear hcs hI hY hRv hb hB hS0 h0 hv hb1
 refine callsIn_of_wp Tryz.func91 rfl trivial ?_ rfl
 simp only[Tryz.ntmps91,List.size_toArray,List.length_cons,List.length_nil,Nat.reduceAdd,Nat.reduceSub,Array.replicate_succ,Array.replicate_zero,List.push_toArray,List.append_toArray,List.nil_append,List.cons_append]
 gi_wp2
 subst hl
 rw[hW] at hSB
 generalize W.alloc (.cells #[.int .i64 0,.int .i64 0,.int .i64 0,.int .i64 0] 109)=w1 at *
 gi_loopw [9] (fun iv wr=>∃ (k:Nat) (hi:Int),k≤l.length∧iv=.int .i64 k∧wr.cell? ⟨Bs,0,none⟩=some (.slice va l.length vc)∧Z6 El.cells 4 wr (.slice va l.length vc) l∧SpB wr (w.heap.size+2) (cur l k).2.1 (cur l k).2.2 hi∧I (cur l k).1 wr) (fun iv _=>(l.length - intOf iv).toNat)
 case atStart=>exact ⟨0,0,Nat.zero_le _,rfl,b1,hS1,hSB,h0a⟩
 case round =>
  clear b1 hS1 hSB h0a
  obtain ⟨k,hh,hk,rfl,b0,hS,hSp,hi⟩:=hrel
  have hzr:=hSp.lt
  by_cases hlt:k<l.length
  ·obtain ⟨x,hx⟩:∃ x,l[k]?=some x:=⟨_,List.getElem?_eq_getElem hlt⟩
   obtain ⟨_,_,e1,_,_,h4⟩:=id hS
   cases e1
   obtain ⟨b,o,rfl,hcc⟩:=h4 (by intro e;rw[e] at hx;simp at hx)
   have x0:wr.cell? ⟨b,o+k*4,none⟩=some (.int .i64 x.id.n):=hcc k x hx 0 _ rfl
   have x1:wr.cell? ⟨b,o+k*4+1,none⟩=some (.int .i64 x.id.r):=hcc k x hx 1 _ rfl
   have x2:wr.cell? ⟨b,o+k*4+2,none⟩=some (.int .i64 x.ch):=hcc k x hx 2 _ rfl
   have x3:wr.cell? ⟨b,o+k*4+3,none⟩=some (.bool x.gone):=hcc k x hx 3 _ rfl
   have hne0:l≠[]:=by intro e;rw[e] at hx;simp at hx
   obtain ⟨v1,v2⟩:=HV.out hne0 b o _ _ rfl
   have hB0:Below wr.heap.size wr (wr.alloc (.cells #[.int .i64 x.id.n,.int .i64 x.id.r,.int .i64 x.ch,.bool x.gone] 46)):=(Below.refl _ _).alloc (Nat.le_refl _) _
   have hEl:(wr.alloc (.cells #[.int .i64 x.id.n,.int .i64 x.id.r,.int .i64 x.ch,.bool x.gone] 46)).heap[wr.heap.size]?=some (.cells #[.int .i64 x.id.n,.int .i64 x.id.r,.int .i64 x.ch,.bool x.gone] 46 (0,0)):=World.alloc_heap_new wr _
   have HX:=Lib.hid hx
   have hkl:(k:Int)<(l.length:Int):=by omega
   have hk0:(0:Int)≤(k:Int):=by omega
   clear hcc h4 hx
   gi_wp2
   refine ⟨by first|trivial|(intros;omega),?_⟩
   refine (callsIn_wide.2 (Td x _)).mono ?_
   rintro e W2 ⟨rfl,hb2⟩
   have hW2:=hB0.trans (hb2.mono hB0.size)
   have hsz0:(wr.alloc (.cells #[.int .i64 x.id.n,.int .i64 x.id.r,.int .i64 x.ch,.bool x.gone] 46)).heap.size=wr.heap.size+1:=by simp
   have hE2:W2.heap[wr.heap.size]?=some (.cells #[.int .i64 x.id.n,.int .i64 x.id.r,.int .i64 x.ch,.bool x.gone] 46 (0,0)):=(hb2.block _ (by rw[hsz0];omega)).trans hEl
   have hSp2:=hSp.ext (Ext.of_below (S:=fun _=>False) hW2) (fun f=>f)
   have hS2:=hS.below hW2
   have b2:=Z0 hW2 b0
   have hi2:=HI.out _ _ _ hi (Ext.mono (Ext.of_below (S:=fun _=>False) hW2) (fun _ _ f=>f.elim))
   have hz2:wr.heap.size<W2.heap.size:=by have:=hb2.size;rw[hsz0] at this;omega
   clear x0 x1 x2 x3 hB0 hEl hb2 hW2 hsz0 hSp hS b0 hi
   cases hb:Xn x with
   | false =>
    have HCN:=Jh (S5 HX.out hb)
    clear hb
    gi_wp2
    go_roundw
    case rel=>exact ⟨k+1,hh,hlt,by go_num,b2,hS2,by rw[HCN.out];exact hSp2,by rw[HCN.out];exact hi2⟩
    case measure=>simp[intOf];omega
   | true =>
    have hcn:=Sd HX.out hb
    obtain ⟨p0,p1,p2,p3,pf⟩:=hSp2.cells
    have pf0:=pf 0
    have pf1:=pf 1
    have pf2:=pf 2
    have pf3:=pf 3
    have hx3:=(Ext.refl (·=w.heap.size+2) W2).setCell (p:=⟨w.heap.size+2,3,none⟩) (.inr rfl) (.int .i64 (k:Int))
    have hSp3:=hSp2.setHi (k:Int)
    have hi3:=HI.out _ _ _ hi2 hx3
    have hE3:=(hx3.block _ hz2 (by omega)).trans hE2
    have hS3:=hS2.ext hx3 (fun b' o' m c e h=>by cases e;omega)
    have b3:=hx3.keep b2 (by omega)
    have hpx:(cur l k).1++[(⟨(cur l k).2.1,(cur l k).2.2,k⟩:Spn)] <+: Ye l:=by
     have:=Rw (l:=l) (n:=k+1) hlt
     rw[hcn] at this
     exact this
    obtain ⟨fn,tmps,assign,body,hy,hR⟩:=HY.out (cur l k).1 ⟨(cur l k).2.1,(cur l k).2.2,k⟩ _ hi3 hpx
    dsimp only at hy
    have HCN:=Lib.hid hcn
    have HE3:=Lib.hid hE3
    have HS3:=Lib.hid hS3
    have HB3:=Lib.hid b3
    have HSp3:=Lib.hid hSp3
    clear hb hcn hi2 hi3 hpx hE2 hE3 hS2 hS3 b2 b3 hSp3 hx3 hSp2
    gi_wp2
    refine hR.mono ?_
    rintro e W4 ⟨rfl,hI4,hx4⟩
    have hz3:(W2.setCell ⟨w.heap.size+2,3,none⟩ (.int .i64 (k:Int))).heap.size=W2.heap.size:=by simp[World.setCell]
    have hE4:=(hx4.block _ (by rw[hz3];exact hz2) (fun h=>by
     rcases h with h|h
     ·omega
     ·exact hRe _ _ _ (by omega) HE3.out h)).trans HE3.out
    have hSp4:=HSp3.out.ext hx4 (fun h=>by
     rcases h with h|h
     ·omega
     ·exact hRs _ h)
    have b4:=hx4.keep HB3.out (fun h=>by
     rcases h with h|h
     ·omega
     ·exact hRB _ h)
    have hS4:=HS3.out.ext hx4 (fun b' o' m c e h=>by
     cases e
     rcases h with h|h
     ·omega
     ·exact v1 _ h)
    have e0:W4.cell? ⟨wr.heap.size,0,none⟩=some (.int .i64 x.id.n):=by simp[World.cell?,hE4]
    have e1:W4.cell? ⟨wr.heap.size,1,none⟩=some (.int .i64 x.id.r):=by simp[World.cell?,hE4]
    obtain ⟨s0,s1,s2,s3,sf⟩:=hSp4.cells
    have sf0:=sf 0
    have sf1:=sf 1
    have sf2:=sf 2
    have sf3:=sf 3
    have HSp5:=Jh (hSp4.set x.id.n x.id.r ((k:Int)+1) 0)
    have hx5:Ext (·=w.heap.size+2) W4 ((((W4.setCell ⟨w.heap.size+2,0,none⟩ (.int .i64 x.id.n)).setCell ⟨w.heap.size+2,1,none⟩ (.int .i64 x.id.r)).setCell ⟨w.heap.size+2,2,none⟩ (.int .i64 ((k:Int)+1))).setCell ⟨w.heap.size+2,3,none⟩ (.int .i64 0)) :=
     ((((Ext.refl (·=w.heap.size+2) W4).setCell (p:=⟨w.heap.size+2,0,none⟩) (.inr rfl) _).setCell (p:=⟨w.heap.size+2,1,none⟩) (.inr rfl) _).setCell (p:=⟨w.heap.size+2,2,none⟩) (.inr rfl) _).setCell (p:=⟨w.heap.size+2,3,none⟩) (.inr rfl) _
    have HI5:=Jh (HI.out _ _ _ hI4 hx5)
    have HB5:=Jh (hx5.keep b4 (by omega))
    have HS5:=Jh (hS4.ext hx5 (fun b' o' m c e h=>by cases e;omega))
    clear hE4 hSp4 b4 hS4 sf hx5 hI4 hx4 hy hR p0 p1 p2 p3 pf pf0 pf1 pf2 pf3
    gi_wp2
    go_roundw
    case rel=>exact ⟨k+1,0,hlt,by go_num,HB5.out,HS5.out,by rw[HCN.out];exact HSp5.out,by rw[HCN.out];exact HI5.out⟩
    case measure=>simp[intOf];omega
  ·obtain rfl:k=l.length:=by omega
   have hkl:¬ (l.length:Int)<(l.length:Int):=by omega
   clear hlt hk
   obtain ⟨p0,p1,p2,p3,pf⟩:=hSp.cells
   have pf3:=pf 3
   have hx3:=(Ext.refl (·=w.heap.size+2) wr).setCell (p:=⟨w.heap.size+2,3,none⟩) (.inr rfl) (.int .i64 (l.length:Int))
   have hi3:=HI.out _ _ _ hi hx3
   obtain ⟨fn,tmps,assign,body,hy,hR⟩:=HY.out (cur l l.length).1 ⟨(cur l l.length).2.1,(cur l l.length).2.2,l.length⟩ _ hi3 (List.prefix_refl _)
   dsimp only at hy
   clear hi hi3 hx3 hS
   gi_wp2
   refine hR.mono ?_
   rintro e W4 ⟨rfl,hI4,hx4⟩
   clear hy hR p0 p1 p2 p3 pf pf3 hx4
   gi_wp2
   go_end0
   exact ⟨⟨_,rfl⟩,hI4⟩
def UV (V:Vw) (b:Bl) (N n:Nat):Prop:=∀ (u:St) (m:Nat) (W:World),BIs W b V→Ym V.H m u→N+1≤n+m→Calls Tryz.prog 48 #[.pointer (some ⟨b.bb,0,none⟩),.agg #[.int .i64 u.n,.int .i64 u.r]] W fun e w'=>U5 V n u W e w'
def RY (V:Vw) (b:Bl) (N n:Nat):Prop:=∀ (u:St) (s:Spn) (m:Nat) (W:World),BIs W b V→YG b.l u=some s→Ym V.H m u→N+1≤n+m→Calls Tryz.prog 71 #[.pointer (some ⟨b.bb,0,none⟩),.agg #[.int .i64 u.n,.int .i64 u.r,.int .i64 s.lo,.int .i64 s.hi]] W fun e w'=>Qe V n u W e w'
noncomputable def YQ (V:Vw) (n:Nat) (K:List Ch) (k:Nat):List Nd:=(K.take k).flatMap fun c=>V.one n c.block
theorem Vg {V:Vw} {n:Nat} {K:List Ch} {k:Nat} {c:Ch} (h:K[k]?=some c):YQ V n K (k+1)=YQ V n K k++V.one n c.block:=by
 unfold YQ
 rw[List.take_add_one,h,List.flatMap_append]
 simp
theorem VL (V:Vw) (n:Nat) (K:List Ch) (k:Nat):(YQ V n K k).length≤(K.flatMap fun c=>V.one n c.block).length:=by
 unfold YQ
 conv=>rhs;rw[←List.take_append_drop k K,List.flatMap_append,List.length_append]
 omega
theorem RQ (w:World):(zeroValue 109).run Tryz.prog w=.ok (.agg #[.int .i64 0,.int .i64 0,.int .i64 0,.int .i64 0]) w:=by kernel_rfl
theorem Xm:Tryz.prog.underlying 26=some (.slice 28):=by kernel_rfl
theorem Ql (V:Vw) (b:Bl) (A:List Ch) (n:Nat) (hA:Yf V.H A) (hAl:A.length≤10000) (hrow:UV V b A.length n) (hnode:RY V b A.length n):UV V b A.length (n+1):=by
 intro u m w hB he hnm
 have hlen:=Vw.row_le hA (n:=n+1) he
 rw[Vw.row_succ] at hlen
 obtain ⟨ps,hps,hpa⟩:=hB.pm
 obtain ⟨lk,hlk,hk1,hk2⟩:=hB.km
 have hin:∀ c∈Yc V.H u,Ym V.H (m+1) c.block:=fun c hc=>by
  obtain ⟨h1,h2⟩:=Xh hc
  exact ⟨c,h1,by rw[h2];exact he⟩
 obtain ⟨K,hK⟩:=Je (Yc V.H u)
 have HROW:Hid (V.row (n+1) u=K.flatMap fun c=>V.one n c.block):=Jh (by rw[Vw.row_succ,hK])
 obtain ⟨ka,kc,hlook,hKs⟩:∃ ka kc,(∀ W',Z4 St.val Sl.val W' b.kb lk→(Instr.lookup 103 (.map (some b.kb)) (.agg #[.int .i64 u.n,.int .i64 u.r]) false).run Tryz.prog W'=.ok (.slice ka K.length kc) W')∧Z6 Ch.cells 5 w (.slice ka K.length kc) K:=by
  cases e:Z3 lk u with
  | some s =>
   have h1:=hk1 u s e
   rw[hK] at h1
   obtain ⟨a,c,e2,_⟩:=id h1
   rw[e2] at h1
   refine ⟨a,c,fun W' hW'=>?_,h1⟩
   have:=hW'.lookup ZU Xp XX u
   rw[e,Option.map_some,Option.getD_some,e2] at this
   exact this
  | none =>
   have h1:=hk2 u e
   rw[hK] at h1
   subst h1
   refine ⟨none,0,fun W' hW'=>?_,⟨none,0,rfl,Nat.le_refl _,Nat.zero_le _,fun h=>absurd rfl h⟩⟩
   have:=hW'.lookup ZU Xp XX u
   rw[e] at this
   exact this
 rw[hK] at hlen hin
 obtain ⟨i0,hi,hz0,hz1',hz2⟩:=info_parts W9
 have hB0:Below w.heap.size w (w.alloc (.cells #[.int .i64 u.n,.int .i64 u.r] 23)):=(Below.refl _ _).alloc (Nat.le_refl _) _
 have x0:(w.alloc (.cells #[.int .i64 u.n,.int .i64 u.r] 23)).cell? ⟨w.heap.size,0,none⟩=some (.int .i64 u.n):=by go_simp
 have x1:(w.alloc (.cells #[.int .i64 u.n,.int .i64 u.r] 23)).cell? ⟨w.heap.size,1,none⟩=some (.int .i64 u.r):=by go_simp
 have hB1:=hB.below hB0
 have hl1:=hlk.below hB0
 have hK1:=hKs.below hB0
 have hp1:=hps.below hB0
 have hkm:K.length≤kc∧kc≤maxLen:=by
  obtain ⟨_,_,e,h1,h2,_⟩:=hKs
  cases e
  exact ⟨h1,h2⟩
 unfold maxLen at hkm
 obtain ⟨hkm1,hkm2⟩:=hkm
 have c2:=hB1.c2
 have HB0:=Lib.hid hB0
 have HB1:=Lib.hid hB1
 have HK1:=Lib.hid hK1
 have HP1:=Lib.hid hp1
 have HPA:=Lib.hid hpa
 have HIN:=Lib.hid hin
 have HNODE:=Lib.hid hnode
 have HRW:=Lib.hid hrow
 clear hB hps hpa hlk hk1 hk2 hKs hB0 hB1 hK1 hp1 hK hin hnode hrow
 go_enter Tryz.func48,Tryz.ntmps48
 go_upto_region 2 with fail
 generalize w.alloc (.cells #[.int .i64 u.n,.int .i64 u.r] 23)=w1 at *
 have hS0:(fun W:World=>W.cell? ⟨b.bb,2,none⟩=some (.map (some b.kb))∧W.cell? ⟨w.heap.size,0,none⟩=some (.int .i64 u.n)∧W.cell? ⟨w.heap.size,1,none⟩=some (.int .i64 u.r)∧(Instr.lookup 103 (.map (some b.kb)) (.agg #[.int .i64 u.n,.int .i64 u.r]) false).run Tryz.prog W=.ok (.slice ka K.length kc) W) w1.drew:=⟨c2,x0,x1,hlook _ hl1.drew⟩
 refine Zq (fun W:World=>W.cell? ⟨b.bb,2,none⟩=some (.map (some b.kb))∧W.cell? ⟨w.heap.size,0,none⟩=some (.int .i64 u.n)∧W.cell? ⟨w.heap.size,1,none⟩=some (.int .i64 u.r)∧(Instr.lookup 103 (.map (some b.kb)) (.agg #[.int .i64 u.n,.int .i64 u.r]) false).run Tryz.prog W=.ok (.slice ka K.length kc) W) (fun _=>false) (by kernel_rfl) ?_
 refine J4 0 10 _ hS0 ?_
 try simp only[Ja]
 refine J4 1 11 _ hS0 ?_
 try simp only[Ja]
 refine J4 2 12 _ hS0 ?_
 try simp only[Ja]
 refine J4 3 13 (.map (some b.kb)) hS0 ?_
 try simp only[Ja]
 refine J4 4 14 (.agg #[.int .i64 u.n,.int .i64 u.r]) hS0 ?_
 try simp only[Ja]
 refine J4 5 15 (.slice ka K.length kc) hS0 ?_
 try simp only[Ja]
 refine J4 6 16 _ hS0 ?_
 try simp only[Ja]
 refine J4 7 17 _ hS0 ?_
 try simp only[Ja]
 refine Zi (by kernel_rfl) ?_ _
 have HW1:Hid (Below w1.heap.size w1 w1.drew∧w1.heap.size=w1.drew.heap.size):=Lib.hid ⟨(Below.refl _ _).drew,rfl⟩
 have hz1:w.heap.size≤w1.heap.size:=HB0.out.size
 have HB2:=Jh (HB0.out.drew)
 have HBI:=Jh (HB1.out.below HW1.out.1)
 have HKS:=Jh (HK1.out.below HW1.out.1)
 have HPS:=Jh (HP1.out.below HW1.out.1)
 clear hS0 hlook c2 x0 x1 hl1 HW1 HB0 HB1 HK1 HP1
 generalize w1.drew=w2 at *
 have hw2:w.heap.size≤w2.heap.size:=HB2.out.size
 go_wp2_with fail
 go_loopg [17,5] K.length (fun g iv ov wx=>∃ (k:Nat) (sv:Sl) (vs:List NdV),g=K.length - k∧k≤K.length∧iv=.int .i64 k∧ov=.slice sv.a sv.n sv.cap∧Hid (Own NdV.cells 6 28 w.heap.size wx sv.val vs)∧Hid (∀ j,sv.val.ownBlock=some j→w2.heap.size≤j)∧Hid (Zc (fun j=>w.heap.size≤j∧sv.val.ownBlock≠some j) wx vs (YQ V n K k))∧Hid (Below w2.heap.size w2 wx))
 case atStart=>exact ⟨0,Z5,[],rfl,Nat.zero_le _,rfl,rfl,Lib.hid Own.nil,Jh (fun j h=>by cases h),Lib.hid Zc.nil,Jh (Below.refl _ _)⟩
 case round =>
  obtain ⟨k,sv,vs,hg,hk,rfl,rfl,HO,HSV,HN,HB⟩:=hrel
  have HG:=Lib.hid hg
  have hwz:=HB.out.size
  clear hg
  have hvl:vs.length=(YQ V n K k).length:=HN.out.1
  have hpl:=VL V n K k
  by_cases hlt:k<K.length
  ·obtain ⟨x,hx⟩:∃ x,K[k]?=some x:=⟨_,List.getElem?_eq_getElem hlt⟩
   have hex:=HIN.out x (List.mem_of_getElem? hx)
   have hbw:=HBI.out.below HB.out
   obtain ⟨ba,oa,ca1,e1,hcs⟩:=(HKS.out.below HB.out).dcells (by intro e;rw[e] at hlt;simp at hlt)
   cases e1
   obtain ⟨y0,y1,y2,y3,y4⟩:=hcs k x hx
   have hpl1:=VL V n K (k+1)
   rw[Vg hx] at hpl1
   have HSU:=Jh (Vg (V:=V) (n:=n) hx)
   have hp2:=HPS.out.below HB.out
   have hlp:∀ W',Z4 St.val Spn.val W' b.pb ps→(Instr.lookup 102 (.map (some b.pb)) (.agg #[.int .i64 x.block.n,.int .i64 x.block.r]) true).run Tryz.prog W'=.ok (.tuple #[((YG b.l x.block).map Spn.val).getD (.agg #[.int .i64 0,.int .i64 0,.int .i64 0,.int .i64 0]),.bool (YG b.l x.block).isSome]) W':=fun W' hW'=>by
    have:=hW'.lookupOk ZU Ua RQ x.block
    rw[HPA.out] at this
    exact this
   have c1:=hbw.c1
   obtain ⟨⟨xn,xr⟩,⟨un,ur⟩,xk⟩:=x
   simp only at y0 y1 y2 y3 y4 hlp hex
   have hkk:(k:Int)<(K.length:Int):=by omega
   have hk0:(0:Int)≤(k:Int):=by omega
   clear hx hcs
   go_upto_region 5 with fail
   have hBA:Below wr.heap.size wr (wr.alloc (.cells #[.int .i64 xn,.int .i64 xr,.int .i64 un,.int .i64 ur,.string xk] 53)):=(Below.refl _ _).alloc (Nat.le_refl _) _
   have z0:(wr.alloc (.cells #[.int .i64 xn,.int .i64 xr,.int .i64 un,.int .i64 ur,.string xk] 53)).cell? ⟨wr.heap.size,0,none⟩=some (.int .i64 xn):=by go_simp
   have z1:(wr.alloc (.cells #[.int .i64 xn,.int .i64 xr,.int .i64 un,.int .i64 ur,.string xk] 53)).cell? ⟨wr.heap.size,1,none⟩=some (.int .i64 xr):=by go_simp
   have hza:(wr.alloc (.cells #[.int .i64 xn,.int .i64 xr,.int .i64 un,.int .i64 ur,.string xk] 53)).heap.size=wr.heap.size+1:=by simp
   have c1a:=Z0 hBA c1
   have hpa2:=hp2.below hBA
   have HBA:=Lib.hid hBA
   clear c1 hp2 y0 y1 y2 y3 y4 hBA hbw
   generalize wr.alloc (.cells #[.int .i64 xn,.int .i64 xr,.int .i64 un,.int .i64 ur,.string xk] 53)=w3 at *
   cases hsp:YG b.l ⟨xn,xr⟩ with
   | some s =>
    obtain ⟨sb,slo,shi⟩:=s
    have hblk:sb=⟨xn,xr⟩:=(SM hsp).2
    have HONE:Hid (V.one n ⟨xn,xr⟩=[V.nd ⟨xn,xr⟩ (V.row n ⟨xn,xr⟩)]):=Jh (by unfold Vw.one;rw[if_pos];rw[HBI.out.lv,hsp];rfl)
    rw[HONE.out] at hpl1
    have hpl2:(YQ V n K k).length+1≤A.length:=by rw[List.length_append,List.length_singleton] at hpl1;omega
    have HND:=Jh (fun (W:World) (hW:BIs W b V)=>HNODE.out ⟨xn,xr⟩ ⟨sb,slo,shi⟩ (m+1) W hW hsp hex (by omega))
    rw[hsp] at hlp
    simp only[Option.map_some,Option.getD_some,Option.isSome_some,Spn.val] at hlp
    have hS0:(fun W:World=>W.cell? ⟨b.bb,1,none⟩=some (.map (some b.pb))∧W.cell? ⟨wr.heap.size,0,none⟩=some (.int .i64 xn)∧W.cell? ⟨wr.heap.size,1,none⟩=some (.int .i64 xr)∧Z4 St.val Spn.val W b.pb ps) w3.drew:=⟨c1a,z0,z1,hpa2.drew⟩
    have hS1:(fun W:World=>W.cell? ⟨b.bb,1,none⟩=some (.map (some b.pb))∧W.cell? ⟨wr.heap.size,0,none⟩=some (.int .i64 xn)∧W.cell? ⟨wr.heap.size,1,none⟩=some (.int .i64 xr)∧Z4 St.val Spn.val W b.pb ps) (w3.drew.alloc (.cells #[.int .i64 0,.int .i64 0,.int .i64 0,.int .i64 0] 109)):=⟨Z2 c1a _,Z2 z0 _,Z2 z1 _,hpa2.drew.alloc _⟩
    refine Zq (fun W:World=>W.cell? ⟨b.bb,1,none⟩=some (.map (some b.pb))∧W.cell? ⟨wr.heap.size,0,none⟩=some (.int .i64 xn)∧W.cell? ⟨wr.heap.size,1,none⟩=some (.int .i64 xr)∧Z4 St.val Spn.val W b.pb ps) (fun i=>i == 12) (by kernel_rfl) ?_
    refine J4 0 22 _ hS0 ?_
    try simp only[Ja]
    refine J4 1 23 _ hS0 ?_
    try simp only[Ja]
    refine J4 2 24 _ hS0 ?_
    try simp only[Ja]
    refine J4 3 25 (.map (some b.pb)) hS0 ?_
    try simp only[Ja]
    refine J4 4 26 _ hS0 ?_
    try simp only[Ja]
    refine J4 5 27 (.agg #[.int .i64 xn,.int .i64 xr]) hS0 ?_
    try simp only[Ja]
    refine JR 6 28 (.tuple #[.agg #[.int .i64 sb.n,.int .i64 sb.r,.int .i64 slo,.int .i64 shi],.bool true]) rfl rfl hS0 (fun W hW=>by obtain ⟨q0,q1,q2,q3⟩:=hW;have q4:=hlp W q3;go_simp;try rfl) ?_
    try simp only[Ja]
    refine J4 7 21 (.tuple #[.agg #[.int .i64 sb.n,.int .i64 sb.r,.int .i64 slo,.int .i64 shi],.bool true]) hS0 ?_
    try simp only[Ja]
    refine J4 8 29 (.agg #[.int .i64 sb.n,.int .i64 sb.r,.int .i64 slo,.int .i64 shi]) hS0 ?_
    try simp only[Ja]
    refine J4 9 30 (.bool true) hS0 ?_
    try simp only[Ja]
    refine Zg (i:=10) (d:=some 8) (v:=.pointer (some ⟨w3.heap.size,0,none⟩)) (w':=w3.drew.alloc (.cells #[.int .i64 0,.int .i64 0,.int .i64 0,.int .i64 0] 109)) (by kernel_rfl) rfl rfl (by rfl) (by go_simp;try rfl) (fun _=>hS1) ?_
    try simp only[Ja]
    have hsb0:SpB (w3.drew.alloc (.cells #[.int .i64 0,.int .i64 0,.int .i64 0,.int .i64 0] 109)) w3.heap.size ⟨0,0⟩ 0 0:=World.alloc_heap_new w3.drew _
    obtain ⟨g0,g1,g2,g3,gf⟩:=hsb0.cells
    have gf0:=gf 0
    have gf1:=gf 1
    have gf2:=gf 2
    have gf3:=gf 3
    have hb5:Below w3.heap.size w3 (((((w3.drew.alloc (.cells #[.int .i64 0,.int .i64 0,.int .i64 0,.int .i64 0] 109)).setCell ⟨w3.heap.size,0,none⟩ (.int .i64 sb.n)).setCell ⟨w3.heap.size,1,none⟩ (.int .i64 sb.r)).setCell ⟨w3.heap.size,2,none⟩ (.int .i64 slo)).setCell ⟨w3.heap.size,3,none⟩ (.int .i64 shi)):=(((((Below.refl _ _).drew.alloc (Nat.le_refl _) _).setCell (p:=⟨w3.heap.size,0,none⟩) (Nat.le_refl _) _).setCell (p:=⟨w3.heap.size,1,none⟩) (Nat.le_refl _) _).setCell (p:=⟨w3.heap.size,2,none⟩) (Nat.le_refl _) _).setCell (p:=⟨w3.heap.size,3,none⟩) (Nat.le_refl _) _
    have hS5:(fun W:World=>W.cell? ⟨b.bb,1,none⟩=some (.map (some b.pb))∧W.cell? ⟨wr.heap.size,0,none⟩=some (.int .i64 xn)∧W.cell? ⟨wr.heap.size,1,none⟩=some (.int .i64 xr)∧Z4 St.val Spn.val W b.pb ps) (((((w3.drew.alloc (.cells #[.int .i64 0,.int .i64 0,.int .i64 0,.int .i64 0] 109)).setCell ⟨w3.heap.size,0,none⟩ (.int .i64 sb.n)).setCell ⟨w3.heap.size,1,none⟩ (.int .i64 sb.r)).setCell ⟨w3.heap.size,2,none⟩ (.int .i64 slo)).setCell ⟨w3.heap.size,3,none⟩ (.int .i64 shi)):=⟨Z0 hb5 c1a,Z0 hb5 z0,Z0 hb5 z1,hpa2.below hb5⟩
    refine Zn (i:=11) (d:=none) (w':=((((w3.drew.alloc (.cells #[.int .i64 0,.int .i64 0,.int .i64 0,.int .i64 0] 109)).setCell ⟨w3.heap.size,0,none⟩ (.int .i64 sb.n)).setCell ⟨w3.heap.size,1,none⟩ (.int .i64 sb.r)).setCell ⟨w3.heap.size,2,none⟩ (.int .i64 slo)).setCell ⟨w3.heap.size,3,none⟩ (.int .i64 shi)) (by kernel_rfl) rfl rfl (by rfl) (by go_simp;try rfl) (fun _=>hS5) ?_
    try simp only[Ja]
    refine Zg (i:=12) (d:=some 9) (v:=.bool true) (w':=((((w3.drew.alloc (.cells #[.int .i64 0,.int .i64 0,.int .i64 0,.int .i64 0] 109)).setCell ⟨w3.heap.size,0,none⟩ (.int .i64 sb.n)).setCell ⟨w3.heap.size,1,none⟩ (.int .i64 sb.r)).setCell ⟨w3.heap.size,2,none⟩ (.int .i64 slo)).setCell ⟨w3.heap.size,3,none⟩ (.int .i64 shi)) (by kernel_rfl) rfl rfl (by rfl) (by go_simp;try rfl) (fun h=>by cases h) ?_
    try simp only[Ja]
    refine Zi (by kernel_rfl) ?_ _
    have hsb:=hsb0.set sb.n (sb.r:Int) (slo:Int) (shi:Int)
    have HSB:=Lib.hid hsb
    have HB5:=Jh (HBA.out.trans (hb5.mono HBA.out.size))
    have t0:=Z0 hb5 z0
    have t1:=Z0 hb5 z1
    have hz5:=HB5.out.size
    have hza2:wr.heap.size<w3.heap.size:=by omega
    clear hza hS5 hS0 hS1 hsb0 g0 g1 g2 g3 gf gf0 gf1 gf2 gf3 hsb hb5 c1a hpa2 hlp z0 z1 HBA
    generalize ((((w3.drew.alloc (.cells #[.int .i64 0,.int .i64 0,.int .i64 0,.int .i64 0] 109)).setCell ⟨w3.heap.size,0,none⟩ (.int .i64 sb.n)).setCell ⟨w3.heap.size,1,none⟩ (.int .i64 sb.r)).setCell ⟨w3.heap.size,2,none⟩ (.int .i64 slo)).setCell ⟨w3.heap.size,3,none⟩ (.int .i64 shi)=w5 at *
    have HBI5:=Jh ((HBI.out.below HB.out).below HB5.out)
    have HO5:=Jh (HO.out.ext (Ext.of_below (S:=fun _=>False) HB5.out) (fun _ _ f=>f))
    have HN5:=Jh (HN.out.below HB5.out)
    have HBW:=Jh (HB.out.trans (HB5.out.mono HB.out.size))
    have hsvb:∀ j,sv.val.ownBlock=some j→j<wr.heap.size:=fun j hj=>(HO.out.blk j hj).2
    clear HB5 HO HN HB
    obtain ⟨g0,g1,g2,g3,-⟩:=HSB.out.cells
    rw[hblk] at g0 g1
    simp only at g0 g1
    go_wp2_with fail
    refine (HND.out _ HBI5.out).mono ?_
    rintro e w6 ⟨x,rfl,hx6,b6⟩
    have hO6:=HO5.out.ext (Ext.of_below (S:=fun _=>False) b6) (fun _ _ f=>f)
    have HN6:=Jh (HN5.out.below b6)
    have HB6:=Jh (HBW.out.trans (b6.mono HBW.out.size))
    have hz6:=b6.size
    have HX6:=Lib.hid hx6
    have HO6:=Lib.hid hO6
    have hvl6:vs.length+1≤A.length:=by omega
    clear b6 hx6 g0 g1 g2 g3 HND HBI5 HO5 HN5 HBW HSB t0 t1
    go_wp2_with (at_builtin;refine Zt rfl _ _ _ rfl i0 (.agg #[.int .i64 0,.int .i64 0,.string ⟨#[]⟩,.slice none 0 0,.slice none 0 0,.slice none 0 0]) 104 Xm hi hz0 hz1' hz2 rfl (by omega) NdV.len NdV.one rfl (hO6.alloc _) x w6.heap.size 1 rfl ?_ (by unfold maxLen;omega) (by omega) (by simp;omega) ?_)
    ·intro j u hj
     match j,hj with
     | 0,hj=>simp[NdV.cells] at hj;subst hj;go_simp
     | 1,hj=>simp[NdV.cells] at hj;subst hj;go_simp
     | 2,hj=>simp[NdV.cells] at hj;subst hj;go_simp
     | 3,hj=>simp[NdV.cells] at hj;subst hj;go_simp
     | 4,hj=>simp[NdV.cells] at hj;subst hj;go_simp
     | 5,hj=>simp[NdV.cells] at hj;subst hj;go_simp
     | n+6,hj=>simp[NdV.cells] at hj
    ·intro v8 w8 hown8 hx8 hfr8
     obtain ⟨g8,n8,c8,rfl⟩:∃ g8 n8 c8,v8=.slice g8 n8 c8:=by
      rcases hown8.eq_slice with ⟨e,_⟩|⟨g,c,e,_⟩
      ·exact ⟨_,_,_,e⟩
      ·exact ⟨_,_,_,e⟩
     have hxs8:=hx8.size
     try rw[World.size_alloc] at hxs8
     have hown9:∀ j,sv.val.ownBlock=some j→w2.heap.size≤j:=HSV.out
     have HN8:Hid (Zc (fun j=>w.heap.size≤j∧(Value.slice g8 n8 c8).ownBlock≠some j) w8 (vs++[x]) (YQ V n K (k+1))):=Jh (by
      rw[HSU.out,HONE.out]
      refine Zc.append ?_ ?_
      ·refine ((HN6.out.ext ((Ext.refl (fun _=>False) _).alloc _) (fun _ _ _ f=>f)).monoL (D':=fun j=>w.heap.size≤j∧(Value.slice g8 n8 c8).ownBlock≠some j∧sv.val.ownBlock≠some j) (fun j hj hl=>⟨hj.1,fun e=>?_,hj.2⟩)).ext hx8 (fun j hj _=>hj.2.2) |>.mono (fun j hj=>⟨hj.1,hj.2.1⟩)
       rcases hfr8 j e with h|h
       ·exact hj.2 h
       ·rw[World.size_alloc] at hl;omega
      ·refine (((Zc.one HX6.out).ext ((Ext.refl (fun _=>False) _).alloc _) (fun _ _ _ f=>f)).monoL (D':=fun j=>w.heap.size≤j∧(Value.slice g8 n8 c8).ownBlock≠some j∧sv.val.ownBlock≠some j) (fun j hj hl=>⟨by omega,fun e=>?_,fun e=>?_⟩)).ext hx8 (fun j hj _=>hj.2.2) |>.mono (fun j hj=>⟨hj.1,hj.2.1⟩)
       ·rcases hfr8 j e with h|h
        ·have:=hsvb j h;omega
        ·first|omega|(rw[World.size_alloc] at hl;omega)|(have:=hl;omega)
       ·have:=hsvb j e;omega)
     have HB8:=Jh (Ext.new (B:=w2.heap.size) (HB6.out.alloc (by omega) _) hx8 (fun j hj _ e=>by have:=hown9 j e;omega) (by simp;omega))
     have HSV8:Hid (∀ j,(Sl.mk g8 n8 c8).val.ownBlock=some j→w2.heap.size≤j):=Jh (fun j hj=>by rcases hfr8 j hj with h|h;exact hown9 j h;omega)
     have HO8:=Lib.hid hown8
     clear hown8 hx8 hfr8 HN6 HO6 HB6
     go_wp2_with fail
     go_roundg (K.length - (k+1))
     case measure=>rw[HG.out];omega
     case rel=>exact ⟨k+1,⟨g8,n8,c8⟩,_,rfl,hlt,by go_num,rfl,HO8,HSV8,HN8,HB8⟩
   | none =>
    have HONE:Hid (V.one n ⟨xn,xr⟩=V.row n ⟨xn,xr⟩):=Jh (by unfold Vw.one;rw[if_neg];rw[HBI.out.lv,hsp];simp)
    rw[HONE.out,List.length_append] at hpl1
    have HND:=Jh (fun (W:World) (hW:BIs W b V)=>HRW.out ⟨xn,xr⟩ (m+1) W hW hex (by omega))
    rw[hsp] at hlp
    simp only[Option.map_none,Option.getD_none,Option.isSome_none] at hlp
    have hS0:(fun W:World=>W.cell? ⟨b.bb,1,none⟩=some (.map (some b.pb))∧W.cell? ⟨wr.heap.size,0,none⟩=some (.int .i64 xn)∧W.cell? ⟨wr.heap.size,1,none⟩=some (.int .i64 xr)∧Z4 St.val Spn.val W b.pb ps) w3.drew:=⟨c1a,z0,z1,hpa2.drew⟩
    have hS1:(fun W:World=>W.cell? ⟨b.bb,1,none⟩=some (.map (some b.pb))∧W.cell? ⟨wr.heap.size,0,none⟩=some (.int .i64 xn)∧W.cell? ⟨wr.heap.size,1,none⟩=some (.int .i64 xr)∧Z4 St.val Spn.val W b.pb ps) (w3.drew.alloc (.cells #[.int .i64 0,.int .i64 0,.int .i64 0,.int .i64 0] 109)):=⟨Z2 c1a _,Z2 z0 _,Z2 z1 _,hpa2.drew.alloc _⟩
    refine Zq (fun W:World=>W.cell? ⟨b.bb,1,none⟩=some (.map (some b.pb))∧W.cell? ⟨wr.heap.size,0,none⟩=some (.int .i64 xn)∧W.cell? ⟨wr.heap.size,1,none⟩=some (.int .i64 xr)∧Z4 St.val Spn.val W b.pb ps) (fun i=>i == 12) (by kernel_rfl) ?_
    refine J4 0 22 _ hS0 ?_
    try simp only[Ja]
    refine J4 1 23 _ hS0 ?_
    try simp only[Ja]
    refine J4 2 24 _ hS0 ?_
    try simp only[Ja]
    refine J4 3 25 (.map (some b.pb)) hS0 ?_
    try simp only[Ja]
    refine J4 4 26 _ hS0 ?_
    try simp only[Ja]
    refine J4 5 27 (.agg #[.int .i64 xn,.int .i64 xr]) hS0 ?_
    try simp only[Ja]
    refine JR 6 28 (.tuple #[.agg #[.int .i64 0,.int .i64 0,.int .i64 0,.int .i64 0],.bool false]) rfl rfl hS0 (fun W hW=>by obtain ⟨q0,q1,q2,q3⟩:=hW;have q4:=hlp W q3;go_simp;try rfl) ?_
    try simp only[Ja]
    refine J4 7 21 (.tuple #[.agg #[.int .i64 0,.int .i64 0,.int .i64 0,.int .i64 0],.bool false]) hS0 ?_
    try simp only[Ja]
    refine J4 8 29 (.agg #[.int .i64 0,.int .i64 0,.int .i64 0,.int .i64 0]) hS0 ?_
    try simp only[Ja]
    refine J4 9 30 (.bool false) hS0 ?_
    try simp only[Ja]
    refine Zg (i:=10) (d:=some 8) (v:=.pointer (some ⟨w3.heap.size,0,none⟩)) (w':=w3.drew.alloc (.cells #[.int .i64 0,.int .i64 0,.int .i64 0,.int .i64 0] 109)) (by kernel_rfl) rfl rfl (by rfl) (by go_simp;try rfl) (fun _=>hS1) ?_
    try simp only[Ja]
    have hsb0:SpB (w3.drew.alloc (.cells #[.int .i64 0,.int .i64 0,.int .i64 0,.int .i64 0] 109)) w3.heap.size ⟨0,0⟩ 0 0:=World.alloc_heap_new w3.drew _
    obtain ⟨g0,g1,g2,g3,gf⟩:=hsb0.cells
    have gf0:=gf 0
    have gf1:=gf 1
    have gf2:=gf 2
    have gf3:=gf 3
    have hb5:Below w3.heap.size w3 (((((w3.drew.alloc (.cells #[.int .i64 0,.int .i64 0,.int .i64 0,.int .i64 0] 109)).setCell ⟨w3.heap.size,0,none⟩ (.int .i64 0)).setCell ⟨w3.heap.size,1,none⟩ (.int .i64 0)).setCell ⟨w3.heap.size,2,none⟩ (.int .i64 0)).setCell ⟨w3.heap.size,3,none⟩ (.int .i64 0)):=(((((Below.refl _ _).drew.alloc (Nat.le_refl _) _).setCell (p:=⟨w3.heap.size,0,none⟩) (Nat.le_refl _) _).setCell (p:=⟨w3.heap.size,1,none⟩) (Nat.le_refl _) _).setCell (p:=⟨w3.heap.size,2,none⟩) (Nat.le_refl _) _).setCell (p:=⟨w3.heap.size,3,none⟩) (Nat.le_refl _) _
    have hS5:(fun W:World=>W.cell? ⟨b.bb,1,none⟩=some (.map (some b.pb))∧W.cell? ⟨wr.heap.size,0,none⟩=some (.int .i64 xn)∧W.cell? ⟨wr.heap.size,1,none⟩=some (.int .i64 xr)∧Z4 St.val Spn.val W b.pb ps) (((((w3.drew.alloc (.cells #[.int .i64 0,.int .i64 0,.int .i64 0,.int .i64 0] 109)).setCell ⟨w3.heap.size,0,none⟩ (.int .i64 0)).setCell ⟨w3.heap.size,1,none⟩ (.int .i64 0)).setCell ⟨w3.heap.size,2,none⟩ (.int .i64 0)).setCell ⟨w3.heap.size,3,none⟩ (.int .i64 0)):=⟨Z0 hb5 c1a,Z0 hb5 z0,Z0 hb5 z1,hpa2.below hb5⟩
    refine Zn (i:=11) (d:=none) (w':=((((w3.drew.alloc (.cells #[.int .i64 0,.int .i64 0,.int .i64 0,.int .i64 0] 109)).setCell ⟨w3.heap.size,0,none⟩ (.int .i64 0)).setCell ⟨w3.heap.size,1,none⟩ (.int .i64 0)).setCell ⟨w3.heap.size,2,none⟩ (.int .i64 0)).setCell ⟨w3.heap.size,3,none⟩ (.int .i64 0)) (by kernel_rfl) rfl rfl (by rfl) (by go_simp;try rfl) (fun _=>hS5) ?_
    try simp only[Ja]
    refine Zg (i:=12) (d:=some 9) (v:=.bool false) (w':=((((w3.drew.alloc (.cells #[.int .i64 0,.int .i64 0,.int .i64 0,.int .i64 0] 109)).setCell ⟨w3.heap.size,0,none⟩ (.int .i64 0)).setCell ⟨w3.heap.size,1,none⟩ (.int .i64 0)).setCell ⟨w3.heap.size,2,none⟩ (.int .i64 0)).setCell ⟨w3.heap.size,3,none⟩ (.int .i64 0)) (by kernel_rfl) rfl rfl (by rfl) (by go_simp;try rfl) (fun h=>by cases h) ?_
    try simp only[Ja]
    refine Zi (by kernel_rfl) ?_ _
    have hsb:=hsb0.set (0:Int) (0:Int) (0:Int) (0:Int)
    have HSB:=Lib.hid hsb
    have HB5:=Jh (HBA.out.trans (hb5.mono HBA.out.size))
    have t0:=Z0 hb5 z0
    have t1:=Z0 hb5 z1
    have hz5:=HB5.out.size
    have hza2:wr.heap.size<w3.heap.size:=by omega
    clear hza hS5 hS0 hS1 hsb0 g0 g1 g2 g3 gf gf0 gf1 gf2 gf3 hsb hb5 c1a hpa2 hlp z0 z1 HBA
    generalize ((((w3.drew.alloc (.cells #[.int .i64 0,.int .i64 0,.int .i64 0,.int .i64 0] 109)).setCell ⟨w3.heap.size,0,none⟩ (.int .i64 0)).setCell ⟨w3.heap.size,1,none⟩ (.int .i64 0)).setCell ⟨w3.heap.size,2,none⟩ (.int .i64 0)).setCell ⟨w3.heap.size,3,none⟩ (.int .i64 0)=w5 at *
    have HBI5:=Jh ((HBI.out.below HB.out).below HB5.out)
    have HO5:=Jh (HO.out.ext (Ext.of_below (S:=fun _=>False) HB5.out) (fun _ _ f=>f))
    have HN5:=Jh (HN.out.below HB5.out)
    have HBW:=Jh (HB.out.trans (HB5.out.mono HB.out.size))
    have hsvb:∀ j,sv.val.ownBlock=some j→j<wr.heap.size:=fun j hj=>(HO.out.blk j hj).2
    clear HB5 HO HN HB
    go_wp2_with fail
    refine (HND.out _ HBI5.out).mono ?_
    rintro e w6 ⟨v6,vs6,rfl,hown6,hx6,b6⟩
    have hO6:=HO5.out.ext (Ext.of_below (S:=fun _=>False) b6) (fun _ _ f=>f)
    have HN6:=Jh (HN5.out.below b6)
    have HB6:=Jh (HBW.out.trans (b6.mono HBW.out.size))
    have hz6:=b6.size
    have HX6:=Lib.hid hx6
    have HO6:=Lib.hid hO6
    have hvl6:vs.length+vs6.length≤A.length:=by have:=hx6.1;omega
    obtain ⟨⟨ga,gn,gc⟩,rfl⟩:∃ s:Sl,v6=.slice s.a s.n s.cap:=by
     rcases hown6.eq_slice with ⟨e,_⟩|⟨g,c,e,_⟩
     ·exact ⟨Z5,e⟩
     ·exact ⟨⟨_,_,_⟩,e⟩
    obtain ⟨v8,w8,hr8,hown8,hx8,hfr8⟩:=Wi (P:=Tryz.prog) 26 26 i0 (.agg #[.int .i64 0,.int .i64 0,.string ⟨#[]⟩,.slice none 0 0,.slice none 0 0,.slice none 0 0]) 104 Xm hi hz0 hz1' hz2 rfl (by omega) NdV.len NdV.one hO6 hown6 (by unfold maxLen;omega) (by omega) (by omega)
    obtain ⟨g8,n8,c8,rfl⟩:∃ g8 n8 c8,v8=.slice g8 n8 c8:=by
     rcases hown8.eq_slice with ⟨e,_⟩|⟨g,c,e,_⟩
     ·exact ⟨_,_,_,e⟩
     ·exact ⟨_,_,_,e⟩
    have hxs8:=hx8.size
    simp only[Sl.val] at hr8
    clear b6 hx6 hown6 HND HBI5 HO5 HN5 HBW HSB t0 t1 hO6
    have hown9:∀ j,sv.val.ownBlock=some j→w2.heap.size≤j:=HSV.out
    go_wp2_with (at_builtin;refine Lib.wpList_append_run _ rfl _ _ _ _ rfl _ _ rfl rfl _ _ hr8 ?_)
    have HN8:Hid (Zc (fun j=>w.heap.size≤j∧(Value.slice g8 n8 c8).ownBlock≠some j) w8 (vs++vs6) (YQ V n K (k+1))):=Jh (by
     rw[HSU.out,HONE.out]
     refine Zc.append ?_ ?_
     ·refine ((HN6.out.mono (fun _ h=>h)).monoL (D':=fun j=>w.heap.size≤j∧(Value.slice g8 n8 c8).ownBlock≠some j∧sv.val.ownBlock≠some j) (fun j hj hl=>⟨hj.1,fun e=>?_,hj.2⟩)).ext hx8 (fun j hj _=>hj.2.2) |>.mono (fun j hj=>⟨hj.1,hj.2.1⟩)
      rcases hfr8 j e with h|h
      ·exact hj.2 h
      ·have:=hl;omega
     ·refine ((HX6.out).monoL (D':=fun j=>w.heap.size≤j∧(Value.slice g8 n8 c8).ownBlock≠some j∧sv.val.ownBlock≠some j) (fun j hj hl=>⟨by omega,fun e=>?_,fun e=>?_⟩)).ext hx8 (fun j hj _=>hj.2.2) |>.mono (fun j hj=>⟨hj.1,hj.2.1⟩)
      ·rcases hfr8 j e with h|h
       ·have:=hsvb j h;omega
       ·first|omega|(rw[World.size_alloc] at hl;omega)|(have:=hl;omega)
      ·have:=hsvb j e;omega)
    have HB8:=Jh (Ext.new (B:=w2.heap.size) HB6.out hx8 (fun j hj _ e=>by have:=hown9 j e;omega) (by omega))
    have HSV8:Hid (∀ j,(Sl.mk g8 n8 c8).val.ownBlock=some j→w2.heap.size≤j):=Jh (fun j hj=>by rcases hfr8 j hj with h|h;exact hown9 j h;omega)
    have HO8:=Lib.hid hown8
    clear hown8 hx8 hfr8 HN6 HO6 HB6
    go_wp2_with fail
    go_roundg (K.length - (k+1))
    case measure=>rw[HG.out];omega
    case rel=>exact ⟨k+1,⟨g8,n8,c8⟩,_,rfl,hlt,by go_num,rfl,HO8,HSV8,HN8,HB8⟩
  ·obtain rfl:k=K.length:=by omega
   have hkk:¬ (K.length:Int)<(K.length:Int):=by omega
   have HFIN:Hid (U5 V (n+1) u w (.returned (.slice sv.a sv.n sv.cap)) wr):=Lib.hid ⟨_,vs,rfl,HO.out,by rw[HROW.out];have:=HN.out;unfold YQ at this;rw[List.take_length] at this;exact this,HB2.out.trans (HB.out.mono hw2)⟩
   clear hlt hk HO HN HB
   go_wp2_with fail
   go_ret
   exact HFIN.out
theorem Wf {P:Program} {ops:Array Oper} {Q:Exit→Act→World→Prop} {i:Nat} {o:Oper} {d:Option Tmp} {f:FuncId} {args:Array Value} {K:Act→World→Prop} {a:Act} {w w':World} (ho:ops[i]?=some o) (hd:o.dst=d) (hw:Region.wanted o (yielded ops a.tmps)=true)
  (hv:(execOp a.eval o).run P w=.ok (.enter f args) w') (h:Calls P f args w' fun e w''=>∃ v,e=.returned v∧K (a.put d v) w''):wpOp P ops Q i K a w:=by
 subst hd
 exact wpOp_step ho fun K' hK=>by
  rw[if_pos hw,Oper.wp,hv,Oper.upon_enter]
  refine Calls.mono h ?_
  rintro e w'' ⟨v,rfl,h1⟩
  exact hK _ _ h1
section
variable {P:Program} {ops:Array Oper} {Q:Exit→Act→World→Prop} {md:Region.Mode} {S:World→Prop} {Z:Nat→Bool}
theorem ZR {i:Nat} {o:Oper} {d:Option Tmp} {f:FuncId} {args:Array Value} {fuel:Nat} {listed:Array Bool} {a:Act} {w w':World} (hr:Region.ready md ops listed=[i]) (ho:ops[i]?=some o) (hd:o.dst=d) (hw:Region.wanted o (yielded ops a.tmps)=true)
  (hv:(execOp a.eval o).run P w=.ok (.enter f args) w')
  (h:Calls P f args w' fun e w''=>∃ v,e=.returned v∧(Z i=false→S w'')∧Zk P md ops Q S Z fuel (listed.setIfInBounds i true) (a.put d v) w''):Zk P md ops Q S Z (fuel+1) listed a w:=by
 subst hd
 exact Wx hr (wpOp_step ho fun K' hK=>by
  rw[if_pos hw,Oper.wp,hv,Oper.upon_enter]
  refine Calls.mono h ?_
  rintro e w'' ⟨v,rfl,h1,h2⟩
  exact hK _ _ ⟨h1,h2⟩)
end
def NdB (W:World) (b:Nat) (id:St) (kind:ByteArray) (x y z:Sl):Prop:=W.heap[b]?=some (.cells #[.int .i64 id.n,.int .i64 id.r,.string kind,.slice x.a x.n x.cap,.slice y.a y.n y.cap,.slice z.a z.n z.cap] 28 (0,0))
section
variable {W W':World} {b:Nat} {id:St} {kind:ByteArray} {x y z:Sl}
theorem NdB.lt (h:NdB W b id kind x y z):b<W.heap.size:=(Array.getElem?_eq_some_iff.1 h).1
theorem NdB.ext {S:Nat→Prop} (h:NdB W b id kind x y z) (hx:Ext S W W') (hn:¬ S b):NdB W' b id kind x y z:=(hx.block b h.lt hn).trans h
theorem NdB.cells (h:NdB W b id kind x y z):W.cell? ⟨b,0,none⟩=some (.int .i64 id.n)∧W.cell? ⟨b,1,none⟩=some (.int .i64 id.r)∧W.cell? ⟨b,2,none⟩=some (.string kind)∧W.cell? ⟨b,3,none⟩=some (.slice x.a x.n x.cap)∧W.cell? ⟨b,4,none⟩=some (.slice y.a y.n y.cap)∧W.cell? ⟨b,5,none⟩=some (.slice z.a z.n z.cap)∧∀ i,W.frozen? ⟨b,i,none⟩=false:=by
 have h:=show W.heap[b]?=_ from h
 refine ⟨?_,?_,?_,?_,?_,?_,fun i=>?_⟩ <;> simp[World.cell?,World.frozen?,h]
theorem NdB.set (h:NdB W b id kind x y z) (i':St) (k':ByteArray) (x' y' z':Sl):NdB ((((((W.setCell ⟨b,0,none⟩ (.int .i64 i'.n)).setCell ⟨b,1,none⟩ (.int .i64 i'.r)).setCell ⟨b,2,none⟩ (.string k')).setCell ⟨b,3,none⟩ (.slice x'.a x'.n x'.cap)).setCell ⟨b,4,none⟩ (.slice y'.a y'.n y'.cap)).setCell ⟨b,5,none⟩ (.slice z'.a z'.n z'.cap)) b i' k' x' y' z':=by
 have h:=show W.heap[b]?=_ from h
 show (World.heap _)[b]?=_
 simp only[World.setCell,Array.getElem?_modify,if_true,h]
 rfl
theorem NdB.setKind (h:NdB W b id kind x y z) (k':ByteArray):NdB (W.setCell ⟨b,2,none⟩ (.string k')) b id k' x y z:=by
 have h:=show W.heap[b]?=_ from h
 show (World.heap _)[b]?=_
 simp only[World.setCell,Array.getElem?_modify,if_true,h]
 rfl
theorem NdB.setAttrs (h:NdB W b id kind x y z) (x':Sl):NdB (W.setCell ⟨b,3,none⟩ (.slice x'.a x'.n x'.cap)) b id kind x' y z:=by
 have h:=show W.heap[b]?=_ from h
 show (World.heap _)[b]?=_
 simp only[World.setCell,Array.getElem?_modify,if_true,h]
 rfl
end
structure QB (V:Vw) (n:Nat) (u:St) (w1 wx:World) (nb:Nat) (qs ks:Sl) (vs:List NdV):Prop where
 bel:Below w1.heap.size w1 wx
 lo:w1.heap.size≤nb
 box:NdB wx nb u ZH Z5 qs ks
 text:ZN (fun j=>w1.heap.size≤j∧j≠nb) wx (.slice qs.a qs.n qs.cap) (V.txt u)
 kids:Zf (fun j=>w1.heap.size≤j∧j≠nb) NdV.cells 6 wx (.slice ks.a ks.n ks.cap) vs
 sub:Zc (fun j=>w1.heap.size≤j∧j≠nb) wx vs (V.row n u)
theorem Wk {V:Vw} {n:Nat} {u:St} {w1 W:World} {nb:Nat} {qs ks:Sl} {vs:List NdV} (hb:Below w1.heap.size w1 W) (hlo:w1.heap.size≤nb) (hbox:NdB W nb ⟨0,0⟩ ⟨#[]⟩ Z5 Z5 Z5) (ht:ZN (fun j=>w1.heap.size≤j∧j≠nb) W (.slice qs.a qs.n qs.cap) (V.txt u))
  (hk:Zf (fun j=>w1.heap.size≤j∧j≠nb) NdV.cells 6 W (.slice ks.a ks.n ks.cap) vs) (hs:Zc (fun j=>w1.heap.size≤j∧j≠nb) W vs (V.row n u)) :
  QB V n u w1 ((((((W.setCell ⟨nb,0,none⟩ (.int .i64 u.n)).setCell ⟨nb,1,none⟩ (.int .i64 u.r)).setCell ⟨nb,2,none⟩ (.string ZH)).setCell ⟨nb,3,none⟩ (.slice none 0 0)).setCell ⟨nb,4,none⟩ (.slice qs.a qs.n qs.cap)).setCell ⟨nb,5,none⟩ (.slice ks.a ks.n ks.cap)) nb qs ks vs:=by
 have hx:Ext (·=nb) W ((((((W.setCell ⟨nb,0,none⟩ (.int .i64 u.n)).setCell ⟨nb,1,none⟩ (.int .i64 u.r)).setCell ⟨nb,2,none⟩ (.string ZH)).setCell ⟨nb,3,none⟩ (.slice none 0 0)).setCell ⟨nb,4,none⟩ (.slice qs.a qs.n qs.cap)).setCell ⟨nb,5,none⟩ (.slice ks.a ks.n ks.cap)) :=
  ((((((Ext.refl (·=nb) W).setCell (p:=⟨nb,0,none⟩) (.inr rfl) _).setCell (p:=⟨nb,1,none⟩) (.inr rfl) _).setCell (p:=⟨nb,2,none⟩) (.inr rfl) _).setCell (p:=⟨nb,3,none⟩) (.inr rfl) _).setCell (p:=⟨nb,4,none⟩) (.inr rfl) _).setCell (p:=⟨nb,5,none⟩) (.inr rfl) _
 exact ⟨Ext.new hb hx (fun i hi _ e=>by omega) hb.size,hlo,hbox.set u ZH Z5 qs ks,ht.ext hx (fun j hj _ e=>hj.2 e),hk.ext hx (fun j hj _ e=>hj.2 e) (fun _=>Nat.zero_lt_succ 5),hs.ext hx (fun j hj _ e=>hj.2 e)⟩
theorem Xw (W:World):NdB (W.alloc (.cells #[.int .i64 0,.int .i64 0,.string ⟨#[]⟩,.slice none 0 0,.slice none 0 0,.slice none 0 0] 28)) W.heap.size ⟨0,0⟩ ⟨#[]⟩ Z5 Z5 Z5:=World.alloc_heap_new W _
theorem YL.sl {base:Nat} {W:World} {u:Value} {P:Pcs} (h:YL base W u P):∃ s:Sl,u=.slice s.a s.n s.cap:=by
 obtain ⟨a,c,e,_⟩:=h.shape
 exact ⟨⟨_,_,_⟩,e⟩
theorem Own.sl20 {α:Type} {ea:α→List Value} {k:Nat} {e:TypeId} {base:Nat} {w:World} {v:Value} {l:List α} (h:Own ea k e base w v l):∃ s:Sl,v=.slice s.a s.n s.cap:=by
 rcases h.eq_slice with ⟨e,_⟩|⟨g,c,e,_⟩
 ·exact ⟨Z5,e⟩
 ·exact ⟨⟨_,_,_⟩,e⟩
theorem Xz {fn:Func} {p:Tmp} {ty:TypeId} (h:fn.results=#[.cell p ty]) (tmps:Array Value) (P:Program) (w:World) :
  (results fn tmps).run P w=((asAddr (tmps.getD p undef)).run P w).andThen fun a w₁=>(loadVar ty a).run P w₁:=by
 simp only[results,h]
 simp[Sem.run_bind,Result.andThen]
theorem Z6.acells {w:World} {v:Value} {l:List Atr} (h:Z6 Atr.cells 2 w v l) (hne:l≠[]):∃ b o cap,v=.slice (some ⟨b,o,none⟩) l.length cap∧∀ i (x:Atr),l[i]?=some x→w.cell? ⟨b,o+i*2,none⟩=some (.string x.name)∧w.cell? ⟨b,o+i*2+1,none⟩=some (.string x.value):=by
 obtain ⟨a,cap,rfl,_,_,h4⟩:=h
 obtain ⟨b,o,rfl,h6⟩:=h4 hne
 exact ⟨b,o,cap,rfl,fun i x hi=>⟨h6 i x hi 0 _ rfl,h6 i x hi 1 _ rfl⟩⟩
theorem Ext.new2 {S T:Nat→Prop} {w w1 w2:World} (h:Ext S w w1) (h2:Ext T w1 w2) (hn:∀ j,j<w.heap.size→¬ T j):Ext S w w2 :=
 ⟨h2.os.trans h.os,h2.tape.trans h.tape,h2.output.trans h.output,Nat.le_trans h.size h2.size,fun j hj hs=>(h2.block j (Nat.lt_of_lt_of_le hj h.size) (hn j hj)).trans (h.block j hj hs)⟩
theorem Rl {L:List Atr} {k:Nat} {x:Atr} (h:L[k]?=some x):X4 (L.take (k+1))=Yp (X4 (L.take k)) x:=by
 unfold X4
 rw[List.take_add_one,h,List.foldl_append]
 rfl
theorem Qi (L:List Atr):(X4 L).2.length≤L.length:=by
 unfold X4
 have:∀ (L:List Atr) (p:ByteArray × List Atr),(L.foldl Yp p).2.length≤p.2.length+L.length:=fun L=>by
  induction L with
  | nil=>intro p;simp
  | cons a L ih =>
   intro p
   rw[List.foldl_cons]
   have:=ih (Yp p a)
   have h2:(Yp p a).2.length≤p.2.length+1:=by
    unfold Yp
    split
    ·omega
    ·split
     ·simp
     ·simp
   simp
   omega
 have:=this L (ZH,[])
 simpa using this
theorem RN (V:Vw) (b:Bl) (N n:Nat) (hrow:UV V b N n):RY V b N n:=by
 intro u s m w hB hsp he hnm
 have hB0:Below w.heap.size w ((w.alloc (.cells #[.int .i64 u.n,.int .i64 u.r,.int .i64 s.lo,.int .i64 s.hi] 109)).alloc (.cells #[.int .i64 0,.int .i64 0,.string ⟨#[]⟩,.slice none 0 0,.slice none 0 0,.slice none 0 0] 28)):=((Below.refl _ _).alloc (Nat.le_refl _) _).alloc (by simp) _
 have hsb:SpB ((w.alloc (.cells #[.int .i64 u.n,.int .i64 u.r,.int .i64 s.lo,.int .i64 s.hi] 109)).alloc (.cells #[.int .i64 0,.int .i64 0,.string ⟨#[]⟩,.slice none 0 0,.slice none 0 0,.slice none 0 0] 28)) w.heap.size u s.lo s.hi:=(Below.heap_alloc _ _ _ (by simp)).trans (World.alloc_heap_new w _)
 have hrb:NdB ((w.alloc (.cells #[.int .i64 u.n,.int .i64 u.r,.int .i64 s.lo,.int .i64 s.hi] 109)).alloc (.cells #[.int .i64 0,.int .i64 0,.string ⟨#[]⟩,.slice none 0 0,.slice none 0 0,.slice none 0 0] 28)) (w.heap.size+1) ⟨0,0⟩ ⟨#[]⟩ Z5 Z5 Z5:=by
  have:=Xw (w.alloc (.cells #[.int .i64 u.n,.int .i64 u.r,.int .i64 s.lo,.int .i64 s.hi] 109))
  rwa [World.size_alloc] at this
 have hz1:((w.alloc (.cells #[.int .i64 u.n,.int .i64 u.r,.int .i64 s.lo,.int .i64 s.hi] 109)).alloc (.cells #[.int .i64 0,.int .i64 0,.string ⟨#[]⟩,.slice none 0 0,.slice none 0 0,.slice none 0 0] 28)).heap.size=w.heap.size+2:=by simp
 have hB1:=hB.below hB0
 have HB0:=Lib.hid hB0
 clear hB hB0
 go_enter Tryz.func71,Tryz.ntmps71
 go_upto_region 1 with fail
 generalize (w.alloc (.cells #[.int .i64 u.n,.int .i64 u.r,.int .i64 s.lo,.int .i64 s.hi] 109)).alloc (.cells #[.int .i64 0,.int .i64 0,.string ⟨#[]⟩,.slice none 0 0,.slice none 0 0,.slice none 0 0] 28)=w1 at *
 have hP:∀ W,Below w1.heap.size w1 W→Calls Tryz.prog 47 #[.slice b.va b.l.length b.ca,.agg #[.int .i64 u.n,.int .i64 u.r,.int .i64 s.lo,.int .i64 s.hi],.slice b.vb b.ms.length b.cb] W fun e w'=>∃ q,e=.returned q∧YL W.heap.size w' q (V.txt u)∧Below W.heap.size W w':=fun W hW=>by
  rw[hB1.tx u s hsp]
  exact (VT b.va b.vb b.ca b.cb b.l b.ms u.n u.r s.lo s.hi W (hB1.below hW).el (hB1.below hW).op hB1.ln.1 hB1.ln.2).mono (fun e w' ⟨q,h1,h2,h3⟩=>⟨q,h1,h2.out,h3⟩)
 have hR:∀ W,Below w1.heap.size w1 W→Calls Tryz.prog 48 #[.pointer (some ⟨b.bb,0,none⟩),.agg #[.int .i64 u.n,.int .i64 u.r]] W fun e w'=>U5 V n u W e w':=fun W hW=>hrow u m W (hB1.below hW) he hnm
 have HP:=Lib.hid hP
 have HR:=Lib.hid hR
 have HSB:=Lib.hid hsb
 have HBI:=Lib.hid hB1
 have HRB:=Lib.hid hrb
 obtain ⟨s0,s1,s2,s3,-⟩:=hsb.cells
 have c0:=hB1.c0
 have c4:=hB1.c4
 clear hP hR hB1 hrow hsp he hnm hsb hrb
 go_cut [5] (fun bv wx=>∃ (nb:Nat) (qs ks:Sl) (vs:List NdV),bv=.pointer (some ⟨nb,0,none⟩)∧Hid (QB V n u w1 wx nb qs ks vs))
 case first =>
  have HS:Hid (∀ W,Below w1.heap.size w1 W→W.cell? ⟨b.bb,0,none⟩=some (.slice b.va b.l.length b.ca)∧W.cell? ⟨b.bb,4,none⟩=some (.slice b.vb b.ms.length b.cb)∧W.cell? ⟨w.heap.size,0,none⟩=some (.int .i64 u.n)∧W.cell? ⟨w.heap.size,1,none⟩=some (.int .i64 u.r)∧W.cell? ⟨w.heap.size,2,none⟩=some (.int .i64 s.lo)∧W.cell? ⟨w.heap.size,3,none⟩=some (.int .i64 s.hi)):=Jh (fun W hW=>⟨Z0 hW c0,Z0 hW c4,Z0 hW s0,Z0 hW s1,Z0 hW s2,Z0 hW s3⟩)
  have hb1:Below w1.heap.size w1 w1.drew:=(Below.refl _ _).drew
  have hS0:(fun W:World=>W.cell? ⟨b.bb,0,none⟩=some (.slice b.va b.l.length b.ca)∧W.cell? ⟨b.bb,4,none⟩=some (.slice b.vb b.ms.length b.cb)∧W.cell? ⟨w.heap.size,0,none⟩=some (.int .i64 u.n)∧W.cell? ⟨w.heap.size,1,none⟩=some (.int .i64 u.r)∧W.cell? ⟨w.heap.size,2,none⟩=some (.int .i64 s.lo)∧W.cell? ⟨w.heap.size,3,none⟩=some (.int .i64 s.hi)) w1.drew:=HS.out _ hb1
  refine Zq (fun W:World=>W.cell? ⟨b.bb,0,none⟩=some (.slice b.va b.l.length b.ca)∧W.cell? ⟨b.bb,4,none⟩=some (.slice b.vb b.ms.length b.cb)∧W.cell? ⟨w.heap.size,0,none⟩=some (.int .i64 u.n)∧W.cell? ⟨w.heap.size,1,none⟩=some (.int .i64 u.r)∧W.cell? ⟨w.heap.size,2,none⟩=some (.int .i64 s.lo)∧W.cell? ⟨w.heap.size,3,none⟩=some (.int .i64 s.hi)) (fun i=>i == 18) (by kernel_rfl) ?_
  refine JR 0 8 _ rfl rfl hS0 (fun W hW=>by obtain ⟨q0,q1,q2,q3,q4,q5⟩:=hW;go_simp;try rfl) ?_
  try simp only[Ja]
  refine JR 1 9 (.agg #[.int .i64 u.n,.int .i64 u.r]) rfl rfl hS0 (fun W hW=>by obtain ⟨q0,q1,q2,q3,q4,q5⟩:=hW;go_simp;try rfl) ?_
  try simp only[Ja]
  refine JR 2 10 _ rfl rfl hS0 (fun W hW=>by obtain ⟨q0,q1,q2,q3,q4,q5⟩:=hW;go_simp;try rfl) ?_
  try simp only[Ja]
  refine JR 3 11 _ rfl rfl hS0 (fun W hW=>by obtain ⟨q0,q1,q2,q3,q4,q5⟩:=hW;go_simp;try rfl) ?_
  try simp only[Ja]
  refine JR 4 12 _ rfl rfl hS0 (fun W hW=>by obtain ⟨q0,q1,q2,q3,q4,q5⟩:=hW;go_simp;try rfl) ?_
  try simp only[Ja]
  refine JR 5 13 (.slice b.va b.l.length b.ca) rfl rfl hS0 (fun W hW=>by obtain ⟨q0,q1,q2,q3,q4,q5⟩:=hW;go_simp;try rfl) ?_
  try simp only[Ja]
  refine JR 6 14 (.agg #[.int .i64 u.n,.int .i64 u.r,.int .i64 s.lo,.int .i64 s.hi]) rfl rfl hS0 (fun W hW=>by obtain ⟨q0,q1,q2,q3,q4,q5⟩:=hW;go_simp;try rfl) ?_
  try simp only[Ja]
  refine JR 7 15 _ rfl rfl hS0 (fun W hW=>by obtain ⟨q0,q1,q2,q3,q4,q5⟩:=hW;go_simp;try rfl) ?_
  try simp only[Ja]
  refine JR 8 16 _ rfl rfl hS0 (fun W hW=>by obtain ⟨q0,q1,q2,q3,q4,q5⟩:=hW;go_simp;try rfl) ?_
  try simp only[Ja]
  refine JR 9 17 _ rfl rfl hS0 (fun W hW=>by obtain ⟨q0,q1,q2,q3,q4,q5⟩:=hW;go_simp;try rfl) ?_
  try simp only[Ja]
  refine JR 10 18 (.slice b.vb b.ms.length b.cb) rfl rfl hS0 (fun W hW=>by obtain ⟨q0,q1,q2,q3,q4,q5⟩:=hW;go_simp;try rfl) ?_
  try simp only[Ja]
  refine JR 12 20 _ rfl rfl hS0 (fun W hW=>by obtain ⟨q0,q1,q2,q3,q4,q5⟩:=hW;go_simp;try rfl) ?_
  try simp only[Ja]
  refine JR 13 21 _ rfl rfl hS0 (fun W hW=>by obtain ⟨q0,q1,q2,q3,q4,q5⟩:=hW;go_simp;try rfl) ?_
  try simp only[Ja]
  refine JR 14 22 (.agg #[.int .i64 u.n,.int .i64 u.r]) rfl rfl hS0 (fun W hW=>by obtain ⟨q0,q1,q2,q3,q4,q5⟩:=hW;go_simp;try rfl) ?_
  try simp only[Ja]
  clear hS0 c0 c4 s0 s1 s2 s3
  generalize w1.drew=w2 at hb1 ⊢
  refine XJ (rs:=[11,17]) (by kernel_rfl) (by simp) (fun i hi=>?_)
  rcases List.mem_cons.1 hi with rfl|hi
  ·skip
   refine Wf (d:=some 19) rfl rfl (by rfl) (w':=w2) (by go_simp;try rfl) ((HP.out _ hb1).mono ?_)
   rintro e w5 ⟨q,rfl,hq,b5⟩
   obtain ⟨qs,rfl⟩:=hq.sl
   have hq5:=hq.toD
   have hb5:=hb1.trans (b5.mono hb1.size)
   refine ⟨_,rfl,⟨fun _=>HS.out _ hb5,?_⟩⟩
   try simp only[Ja]
   have hz5:=b5.size
   refine XJ (rs:=[15,17]) (by kernel_rfl) (by simp) (fun i hi=>?_)
   rcases List.mem_cons.1 hi with rfl|hi
   ·skip
    refine Wf (d:=some 23) rfl rfl (by rfl) (w':=w5) (by go_simp;try rfl) ((HR.out _ hb5).mono ?_)
    rintro e w6 ⟨kv,vs,rfl,hown6,hn6,b6⟩
    obtain ⟨ks,rfl⟩:=hown6.sl20
    have hk6:=hown6.sliceD NdV.len
    have hb6:=hb5.trans (b6.mono hb5.size)
    have hz6:=b6.size
    refine ⟨_,rfl,⟨fun _=>HS.out _ hb6,?_⟩⟩
    try simp only[Ja]
    refine X5 (i:=16) (d:=some 24) (v:=.agg #[.int .i64 u.n,.int .i64 u.r,.string ZH,.slice none 0 0,.slice qs.a qs.n qs.cap,.slice ks.a ks.n ks.cap]) rfl rfl rfl (by kernel_rfl) (by kernel_rfl) (by kernel_rfl) (by kernel_rfl) (fun _ _ _ h=>h) (.inl ⟨by rfl,fun W hW=>by go_simp;try rfl⟩) (HS.out _ hb6) ?_
    try simp only[Ja]
    refine Zg (i:=17) (d:=some 5) (v:=.pointer (some ⟨w6.heap.size,0,none⟩)) (w':=w6.alloc (.cells #[.int .i64 0,.int .i64 0,.string ⟨#[]⟩,.slice none 0 0,.slice none 0 0,.slice none 0 0] 28)) (by kernel_rfl) rfl rfl (by rfl) (by go_simp;try rfl) (fun _=>HS.out _ (hb6.alloc hb6.size _)) ?_
    try simp only[Ja]
    have hz2:=hb1.size
    have hbW:=hb6.alloc hb6.size (.cells #[.int .i64 0,.int .i64 0,.string ⟨#[]⟩,.slice none 0 0,.slice none 0 0,.slice none 0 0] 28)
    have hloW:=hb6.size
    have hbox:=Xw w6
    have hal:Ext (fun _=>False) w6 (w6.alloc (.cells #[.int .i64 0,.int .i64 0,.string ⟨#[]⟩,.slice none 0 0,.slice none 0 0,.slice none 0 0] 28)):=(Ext.refl _ _).alloc _
    have htW:=(((hq5.ext (Ext.of_below (S:=fun _=>False) b6) (fun _ _ _ f=>f)).monoL (D':=fun j=>w1.heap.size≤j∧j≠w6.heap.size) (fun j hj hl=>⟨by omega,by omega⟩))).ext hal (fun _ _ _ f=>f)
    have hkW:=(hk6.monoL (D':=fun j=>w1.heap.size≤j∧j≠w6.heap.size) (fun _=>Nat.zero_lt_succ 5) (fun j hj hl=>⟨by have:=(hown6.blk j hj).1;omega,by omega⟩)).ext hal (fun _ _ _ f=>f) (fun _=>Nat.zero_lt_succ 5)
    have hsW:=(hn6.monoL (D':=fun j=>w1.heap.size≤j∧j≠w6.heap.size) (fun j hj hl=>⟨by omega,by omega⟩)).ext hal (fun _ _ _ f=>f)
    obtain ⟨g0,g1,g2,g3,g4,g5,gf⟩:=hbox.cells
    have gf0:=gf 0
    have gf1:=gf 1
    have gf2:=gf 2
    have gf3:=gf 3
    have gf4:=gf 4
    have gf5:=gf 5
    refine Zn (i:=18) (d:=none) (w':=((((((w6.alloc (.cells #[.int .i64 0,.int .i64 0,.string ⟨#[]⟩,.slice none 0 0,.slice none 0 0,.slice none 0 0] 28)).setCell ⟨w6.heap.size,0,none⟩ (.int .i64 u.n)).setCell ⟨w6.heap.size,1,none⟩ (.int .i64 u.r)).setCell ⟨w6.heap.size,2,none⟩ (.string ZH)).setCell ⟨w6.heap.size,3,none⟩ (.slice none 0 0)).setCell ⟨w6.heap.size,4,none⟩ (.slice qs.a qs.n qs.cap)).setCell ⟨w6.heap.size,5,none⟩ (.slice ks.a ks.n ks.cap)) (by kernel_rfl) rfl rfl (by rfl) (by unfold ZH Z5 at *;go_simp;try rfl) (fun h=>by cases h) ?_
    try simp only[Ja]
    refine Zi (by kernel_rfl) ?_ _
    have HC:=Jh (Wk (V:=V) (n:=n) (u:=u) hbW hloW hbox htW hkW hsW)
    clear g0 g1 g2 g3 g4 g5 gf gf0 gf1 gf2 gf3 gf4 gf5
    go_wp2_with fail
    go_meet
    exact ⟨_,qs,ks,vs,rfl,HC⟩
   ·obtain rfl:=List.mem_singleton.1 hi
    refine Wu (d:=some 5) (v:=.pointer (some ⟨w5.heap.size,0,none⟩)) (w':=w5.alloc (.cells #[.int .i64 0,.int .i64 0,.string ⟨#[]⟩,.slice none 0 0,.slice none 0 0,.slice none 0 0] 28)) rfl rfl (by rfl) (by go_simp;try rfl) ⟨fun _=>HS.out _ (hb5.alloc hb5.size _),?_⟩
    try simp only[Ja]
    have hal:Ext (fun _=>False) w5 (w5.alloc (.cells #[.int .i64 0,.int .i64 0,.string ⟨#[]⟩,.slice none 0 0,.slice none 0 0,.slice none 0 0] 28)):=(Ext.refl _ _).alloc _
    have hb5a:=hb5.alloc hb5.size (.cells #[.int .i64 0,.int .i64 0,.string ⟨#[]⟩,.slice none 0 0,.slice none 0 0,.slice none 0 0] 28)
    have hbx:=Xw w5
    have hz5a:(w5.alloc (.cells #[.int .i64 0,.int .i64 0,.string ⟨#[]⟩,.slice none 0 0,.slice none 0 0,.slice none 0 0] 28)).heap.size=w5.heap.size+1:=by simp
    have hq5a:=(hq5.monoL (D':=fun j=>w1.heap.size≤j∧j≠w5.heap.size) (fun j hj hl=>⟨by have:=hb1.size;omega,by omega⟩)).ext hal (fun _ _ _ f=>f)
    refine ZR (i:=15) (d:=some 23) (w':=(w5.alloc (.cells #[.int .i64 0,.int .i64 0,.string ⟨#[]⟩,.slice none 0 0,.slice none 0 0,.slice none 0 0] 28))) (by kernel_rfl) rfl rfl (by rfl) (by go_simp;try rfl) ((HR.out _ hb5a).mono ?_)
    rintro e w6 ⟨kv,vs,rfl,hown6,hn6,b6⟩
    obtain ⟨ks,rfl⟩:=hown6.sl20
    have hk6:=hown6.sliceD NdV.len
    have hb6:=hb5a.trans (b6.mono hb5a.size)
    have hz6:=b6.size
    refine ⟨_,rfl,fun _=>HS.out _ hb6,?_⟩
    try simp only[Ja]
    refine X5 (i:=16) (d:=some 24) (v:=.agg #[.int .i64 u.n,.int .i64 u.r,.string ZH,.slice none 0 0,.slice qs.a qs.n qs.cap,.slice ks.a ks.n ks.cap]) rfl rfl rfl (by kernel_rfl) (by kernel_rfl) (by kernel_rfl) (by kernel_rfl) (fun _ _ _ h=>h) (.inl ⟨by rfl,fun W hW=>by go_simp;try rfl⟩) (HS.out _ hb6) ?_
    try simp only[Ja]
    have hz2:=hb1.size
    have hbW:=hb6
    have hloW:=hb5.size
    have hbox:=hbx.ext (Ext.of_below (S:=fun _=>False) b6) (fun f=>f)
    have htW:=hq5a.ext (Ext.of_below (S:=fun _=>False) b6) (fun _ _ _ f=>f)
    have hkW:=hk6.monoL (D':=fun j=>w1.heap.size≤j∧j≠w5.heap.size) (fun _=>Nat.zero_lt_succ 5) (fun j hj hl=>⟨by have:=(hown6.blk j hj).1;omega,by have:=(hown6.blk j hj).1;omega⟩)
    have hsW:=hn6.monoL (D':=fun j=>w1.heap.size≤j∧j≠w5.heap.size) (fun j hj hl=>⟨by omega,by omega⟩)
    obtain ⟨g0,g1,g2,g3,g4,g5,gf⟩:=hbox.cells
    have gf0:=gf 0
    have gf1:=gf 1
    have gf2:=gf 2
    have gf3:=gf 3
    have gf4:=gf 4
    have gf5:=gf 5
    refine Zn (i:=18) (d:=none) (w':=(((((w6.setCell ⟨w5.heap.size,0,none⟩ (.int .i64 u.n)).setCell ⟨w5.heap.size,1,none⟩ (.int .i64 u.r)).setCell ⟨w5.heap.size,2,none⟩ (.string ZH)).setCell ⟨w5.heap.size,3,none⟩ (.slice none 0 0)).setCell ⟨w5.heap.size,4,none⟩ (.slice qs.a qs.n qs.cap)).setCell ⟨w5.heap.size,5,none⟩ (.slice ks.a ks.n ks.cap)) (by kernel_rfl) rfl rfl (by rfl) (by unfold ZH Z5 at *;go_simp;try rfl) (fun h=>by cases h) ?_
    try simp only[Ja]
    refine Zi (by kernel_rfl) ?_ _
    have HC:=Jh (Wk (V:=V) (n:=n) (u:=u) hbW hloW hbox htW hkW hsW)
    clear g0 g1 g2 g3 g4 g5 gf gf0 gf1 gf2 gf3 gf4 gf5
    go_wp2_with fail
    go_meet
    exact ⟨_,qs,ks,vs,rfl,HC⟩
  ·obtain rfl:=List.mem_singleton.1 hi
   refine Wu (d:=some 5) (v:=.pointer (some ⟨w2.heap.size,0,none⟩)) (w':=w2.alloc (.cells #[.int .i64 0,.int .i64 0,.string ⟨#[]⟩,.slice none 0 0,.slice none 0 0,.slice none 0 0] 28)) rfl rfl (by rfl) (by go_simp;try rfl) ⟨fun _=>HS.out _ (hb1.alloc hb1.size _),?_⟩
   try simp only[Ja]
   have hb2a:=hb1.alloc hb1.size (.cells #[.int .i64 0,.int .i64 0,.string ⟨#[]⟩,.slice none 0 0,.slice none 0 0,.slice none 0 0] 28)
   have hbx:=Xw w2
   have hz2a:(w2.alloc (.cells #[.int .i64 0,.int .i64 0,.string ⟨#[]⟩,.slice none 0 0,.slice none 0 0,.slice none 0 0] 28)).heap.size=w2.heap.size+1:=by simp
   refine ZR (i:=11) (d:=some 19) (w':=(w2.alloc (.cells #[.int .i64 0,.int .i64 0,.string ⟨#[]⟩,.slice none 0 0,.slice none 0 0,.slice none 0 0] 28))) (by kernel_rfl) rfl rfl (by rfl) (by go_simp;try rfl) ((HP.out _ hb2a).mono ?_)
   rintro e w5 ⟨q,rfl,hq,b5⟩
   obtain ⟨qs,rfl⟩:=hq.sl
   have hq5:=hq.toD
   have hb5:=hb2a.trans (b5.mono hb2a.size)
   refine ⟨_,rfl,fun _=>HS.out _ hb5,?_⟩
   try simp only[Ja]
   have hz5:=b5.size
   have hbx5:=hbx.ext (Ext.of_below (S:=fun _=>False) b5) (fun f=>f)
   refine ZR (i:=15) (d:=some 23) (w':=w5) (by kernel_rfl) rfl rfl (by rfl) (by go_simp;try rfl) ((HR.out _ hb5).mono ?_)
   rintro e w6 ⟨kv,vs,rfl,hown6,hn6,b6⟩
   obtain ⟨ks,rfl⟩:=hown6.sl20
   have hk6:=hown6.sliceD NdV.len
   have hb6:=hb5.trans (b6.mono hb5.size)
   have hz6:=b6.size
   refine ⟨_,rfl,fun _=>HS.out _ hb6,?_⟩
   try simp only[Ja]
   refine X5 (i:=16) (d:=some 24) (v:=.agg #[.int .i64 u.n,.int .i64 u.r,.string ZH,.slice none 0 0,.slice qs.a qs.n qs.cap,.slice ks.a ks.n ks.cap]) rfl rfl rfl (by kernel_rfl) (by kernel_rfl) (by kernel_rfl) (by kernel_rfl) (fun _ _ _ h=>h) (.inl ⟨by rfl,fun W hW=>by go_simp;try rfl⟩) (HS.out _ hb6) ?_
   try simp only[Ja]
   have hz2:=hb1.size
   have hbW:=hb6
   have hloW:=hb1.size
   have hbox:=hbx5.ext (Ext.of_below (S:=fun _=>False) b6) (fun f=>f)
   have htW:=(hq5.ext (Ext.of_below (S:=fun _=>False) b6) (fun _ _ _ f=>f)).monoL (D':=fun j=>w1.heap.size≤j∧j≠w2.heap.size) (fun j hj hl=>⟨by omega,by omega⟩)
   have hkW:=hk6.monoL (D':=fun j=>w1.heap.size≤j∧j≠w2.heap.size) (fun _=>Nat.zero_lt_succ 5) (fun j hj hl=>⟨by have:=(hown6.blk j hj).1;omega,by have:=(hown6.blk j hj).1;omega⟩)
   have hsW:=hn6.monoL (D':=fun j=>w1.heap.size≤j∧j≠w2.heap.size) (fun j hj hl=>⟨by omega,by omega⟩)
   obtain ⟨g0,g1,g2,g3,g4,g5,gf⟩:=hbox.cells
   have gf0:=gf 0
   have gf1:=gf 1
   have gf2:=gf 2
   have gf3:=gf 3
   have gf4:=gf 4
   have gf5:=gf 5
   refine Zn (i:=18) (d:=none) (w':=(((((w6.setCell ⟨w2.heap.size,0,none⟩ (.int .i64 u.n)).setCell ⟨w2.heap.size,1,none⟩ (.int .i64 u.r)).setCell ⟨w2.heap.size,2,none⟩ (.string ZH)).setCell ⟨w2.heap.size,3,none⟩ (.slice none 0 0)).setCell ⟨w2.heap.size,4,none⟩ (.slice qs.a qs.n qs.cap)).setCell ⟨w2.heap.size,5,none⟩ (.slice ks.a ks.n ks.cap)) (by kernel_rfl) rfl rfl (by rfl) (by unfold ZH Z5 at *;go_simp;try rfl) (fun h=>by cases h) ?_
   try simp only[Ja]
   refine Zi (by kernel_rfl) ?_ _
   have HC:=Jh (Wk (V:=V) (n:=n) (u:=u) hbW hloW hbox htW hkW hsW)
   clear g0 g1 g2 g3 g4 g5 gf gf0 gf1 gf2 gf3 gf4 gf5
   go_wp2_with fail
   go_meet
   exact ⟨_,qs,ks,vs,rfl,HC⟩
 case rest =>
  obtain ⟨nb,qs,ks,vs,rfl,HC⟩:=hcut
  have hb:=HC.out.bel
  have hlo:=HC.out.lo
  have c3c:=(HBI.out.below hb).c3
  have s0c:=Z0 hb s0
  have s1c:=Z0 hb s1
  have hrc:=HRB.out.ext (Ext.of_below (S:=fun _=>False) hb) (fun f=>f)
  have hbw:=HB0.out.trans (hb.mono HB0.out.size)
  have hzc:=hb.size
  have hnbl:=HC.out.box.lt
  have HAL:=Jh (fun W (hW:Below w1.heap.size w1 W)=>(HBI.out.below hW).rg W (Below.refl _ _) u)
  have hbd:Below w1.heap.size w1 wc.drew:=hb.drew
  have hbwd:Below w.heap.size w wc.drew:=hbw.drew
  have hbx:NdB wc.drew nb u ZH Z5 qs ks:=HC.out.box
  have htx:ZN (fun j=>w1.heap.size≤j∧j≠nb) wc.drew (.slice qs.a qs.n qs.cap) (V.txt u):=HC.out.text.ext (Ext.of_below (S:=fun _=>False) (Below.refl _ wc).drew) (fun _ _ _ f=>f)
  have hkx:Zf (fun j=>w1.heap.size≤j∧j≠nb) NdV.cells 6 wc.drew (.slice ks.a ks.n ks.cap) vs:=HC.out.kids.ext (Ext.of_below (S:=fun _=>False) (Below.refl _ wc).drew) (fun _ _ _ f=>f) (fun _=>Nat.zero_lt_succ 5)
  have hsx:Zc (fun j=>w1.heap.size≤j∧j≠nb) wc.drew vs (V.row n u):=HC.out.sub.ext (Ext.of_below (S:=fun _=>False) (Below.refl _ wc).drew) (fun _ _ _ f=>f)
  have HCD:=Jh (And.intro hbx (And.intro htx (And.intro hkx hsx)))
  have hrcd:NdB wc.drew (w.heap.size+1) ⟨0,0⟩ ⟨#[]⟩ Z5 Z5 Z5:=hrc
  have HRC:=Lib.hid hrcd
  have HBW:=Lib.hid hbwd
  have hnbd:nb<wc.drew.heap.size:=hnbl
  clear s0 s1 s2 s3 c0 c4 hb HP HR hrc hrcd hbw hbwd hbx htx hkx hsx HC hnbl
  go_upto_region 2 with fail
  have hS0:(fun W:World=>W.cell? ⟨b.bb,3,none⟩=some b.gv∧W.cell? ⟨w.heap.size,0,none⟩=some (.int .i64 u.n)∧W.cell? ⟨w.heap.size,1,none⟩=some (.int .i64 u.r)) wc.drew:=⟨c3c,s0c,s1c⟩
  have HS3:Hid (∀ W,Below wc.drew.heap.size wc.drew W→W.cell? ⟨b.bb,3,none⟩=some b.gv∧W.cell? ⟨w.heap.size,0,none⟩=some (.int .i64 u.n)∧W.cell? ⟨w.heap.size,1,none⟩=some (.int .i64 u.r)):=Jh (fun W hW=>⟨Z0 hW c3c,Z0 hW s0c,Z0 hW s1c⟩)
  refine Zq (fun W:World=>W.cell? ⟨b.bb,3,none⟩=some b.gv∧W.cell? ⟨w.heap.size,0,none⟩=some (.int .i64 u.n)∧W.cell? ⟨w.heap.size,1,none⟩=some (.int .i64 u.r)) (fun _=>false) (by kernel_rfl) ?_
  refine J3 0 25 _ hS0 ?_
  try simp only[Ja]
  refine J3 1 26 _ hS0 ?_
  try simp only[Ja]
  refine J3 2 27 _ hS0 ?_
  try simp only[Ja]
  refine J3 3 28 (b.gv) hS0 ?_
  try simp only[Ja]
  refine J3 4 29 _ hS0 ?_
  try simp only[Ja]
  refine J3 5 30 (.agg #[.int .i64 u.n,.int .i64 u.r]) hS0 ?_
  try simp only[Ja]
  refine J3 8 33 _ hS0 ?_
  try simp only[Ja]
  clear hS0 c3c s0c s1c hzc
  generalize wc.drew=wd at *
  obtain ⟨L,hL⟩:=Je (V.regs u)
  refine ZR (i:=6) (d:=some 31) (w':=wd) (by kernel_rfl) rfl rfl (by rfl) (by go_simp;try rfl) ((HAL.out _ hbd).mono ?_)
  rintro e w2 ⟨v2,rfl,hown2,hll,b2⟩
  rw[hL] at hown2 hll
  have HLL:=Lib.hid hL
  obtain ⟨a2,cap2,rfl,hcc2,hmm2,-⟩:=hown2.slice (fun _=>rfl)
  unfold maxLen at hmm2
  have hS2:=HS3.out _ b2
  have hz2:=b2.size
  refine ⟨_,rfl,fun _=>hS2,?_⟩
  try simp only[Ja]
  refine J3 7 32 (.int .i64 L.length) hS2 ?_
  try simp only[Ja]
  refine Zi (by kernel_rfl) ?_ _
  have HB2:=Jh (HBW.out.trans (b2.mono (by have:=HBW.out.size;omega)))
  have HCE:=Jh (And.intro (HCD.out.1.ext (Ext.of_below (S:=fun _=>False) b2) (fun f=>f)) (And.intro (HCD.out.2.1.ext (Ext.of_below (S:=fun _=>False) b2) (fun _ _ _ f=>f)) (And.intro (HCD.out.2.2.1.ext (Ext.of_below (S:=fun _=>False) b2) (fun _ _ _ f=>f) (fun _=>Nat.zero_lt_succ 5)) (HCD.out.2.2.2.ext (Ext.of_below (S:=fun _=>False) b2) (fun _ _ _ f=>f)))))
  have HRC2:=Jh (HRC.out.ext (Ext.of_below (S:=fun _=>False) b2) (fun f=>f))
  have HOW:=Lib.hid hown2
  obtain ⟨i0,hi,hz0,hz1',hz2'⟩:=info_parts UD
  clear hS2 HS3 hL hown2 b2 HCD HRC HBW HAL hbd hcc2 HBI HSB HB0
  go_wp2_with fail
  go_loopg [33] L.length (fun g iv wx=>∃ (k:Nat) (sv:Sl),g=L.length - k∧k≤L.length∧iv=.int .i64 k∧Hid (NdB wx nb u (X4 (L.take k)).1 sv qs ks)∧Hid (Own Atr.cells 2 73 w2.heap.size wx sv.val (X4 (L.take k)).2)∧Hid (Ext (·=nb) w2 wx))
  case atStart=>exact ⟨0,Z5,rfl,Nat.zero_le _,rfl,HCE.out.1,Lib.hid Own.nil,Jh (Ext.refl _ _)⟩
  case round =>
   obtain ⟨k,sv,hg,hk,rfl,HNB,HO,HX⟩:=hrel
   have HG:=Lib.hid hg
   have hwz:=HX.out.size
   clear hg
   by_cases hlt:k<L.length
   ·obtain ⟨⟨nm,vl⟩,hx⟩:∃ x,L[k]?=some x:=⟨_,List.getElem?_eq_getElem hlt⟩
    have hkk:(k:Int)<(L.length:Int):=by omega
    have hk0:(0:Int)≤(k:Int):=by omega
    have hw4:=HOW.out.ext HX.out (fun j hj e=>by have:=(HOW.out.blk j hj).1;omega)
    obtain ⟨ba,oa,ca1,e1,hcs⟩:=(hw4.slice (fun _=>rfl)).acells (by intro e;rw[e] at hlt;simp at hlt)
    cases e1
    obtain ⟨y0,y1⟩:=hcs k _ hx
    simp only at y0 y1
    have HST:=Jh (Rl hx)
    have hpl:=Qi (L.take k)
    rw[List.length_take] at hpl
    have hpl2:(X4 (L.take k)).2.length≤1000000:=by omega
    obtain ⟨kd,hkd⟩:=Je ((X4 (L.take k)).1)
    obtain ⟨al,hal⟩:=Je ((X4 (L.take k)).2)
    have HRP:Hid (X4 (L.take k)=(kd,al)):=Jh (by rw[←hkd,←hal])
    rw[hkd] at HNB
    rw[hal] at HO hpl2
    clear hx hcs hw4 hpl hkd hal
    by_cases hv:vl=⟨#[]⟩
    ·subst hv
     go_wp2_with fail
     go_roundg (L.length - (k+1))
     case measure=>rw[HG.out];omega
     case rel =>
      refine ⟨k+1,sv,rfl,hlt,by go_num,?_,?_,Jh (HX.out.alloc _)⟩
      ·rw[HST.out,HRP.out];unfold Yp;rw[if_pos rfl];exact Jh (HNB.out.ext (((Ext.refl (fun _=>False) _).alloc _)) (fun f=>f))
      ·rw[HST.out,HRP.out];unfold Yp;rw[if_pos rfl];exact Jh (HO.out.alloc _)
    ·have hv1:(vl.toList == [])=false:=by
      cases h:(vl.toList == []) with
      | false=>rfl
      | true=>exact absurd ((ZT vl ⟨#[]⟩).1 (by simpa using eq_of_beq h)) hv
     have hv2:(vl == ⟨#[]⟩)=false:=by rw[YM];simp[hv]
     have HV:=Lib.hid hv
     clear hv
     by_cases hn:nm=VP
     ·subst hn
      obtain ⟨g0,g1,g2,g3,g4,g5,gf⟩:=HNB.out.cells
      have gf2:=gf 2
      clear gf g0 g1 g3 g4 g5
      have hnw:=HNB.out.lt
      unfold VP at y0
      go_wp2_with fail
      go_roundg (L.length - (k+1))
      case measure=>rw[HG.out];omega
      case rel =>
       refine ⟨k+1,sv,rfl,hlt,by go_num,?_,?_,Jh ((HX.out.setCell (p:=⟨nb,2,none⟩) (.inr rfl) _).alloc _)⟩
       ·rw[HST.out,HRP.out];unfold Yp;rw[if_neg HV.out,if_pos rfl];exact Jh ((HNB.out.setKind vl).ext (((Ext.refl (fun _=>False) _).alloc _)) (fun f=>f))
       ·rw[HST.out,HRP.out];unfold Yp;rw[if_neg HV.out,if_pos rfl];exact Jh ((HO.out.ext (S:=(·=nb)) ((Ext.refl (·=nb) wr).setCell (p:=⟨nb,2,none⟩) (.inr rfl) _) (fun j hj e=>by have:=(HO.out.blk j hj).1;omega)).alloc _)
     ·have hn1:(nm.toList == [107,105,110,100])=false:=by
       cases h:(nm.toList == [107,105,110,100]) with
       | false=>rfl
       | true=>exact absurd ((ZT nm VP).1 (by simpa [VP] using eq_of_beq h)) hn
      have hn2:(nm == ⟨#[107,105,110,100]⟩)=false:=by rw[YM];simp;exact hn
      have HN:=Lib.hid hn
      clear hn
      obtain ⟨sa,sn,sc⟩:=sv
      obtain ⟨g0,g1,g2,g3,g4,g5,gf⟩:=HNB.out.cells
      clear gf g0 g1 g2 g4 g5
      have hnw:=HNB.out.lt
      simp only at g3
      go_wp2_with (at_builtin;refine Zt rfl _ _ _ rfl i0 (.agg #[.string ⟨#[]⟩,.string ⟨#[]⟩]) 32 Tryz.underlying24 hi hz0 hz1' hz2' rfl (by omega) (fun _=>rfl) (fun x u hu=>by simp[Atr.cells] at hu;rcases hu with rfl|rfl <;> rfl) rfl ((HO.out.alloc _).alloc _) ⟨nm,vl⟩ (wr.heap.size+1) 1 rfl ?_ (by unfold maxLen;omega) (by omega) (by simp;omega) ?_)
      ·intro j u hj
       match j,hj with
       | 0,hj=>simp[Atr.cells] at hj;subst hj;go_simp
       | 1,hj=>simp[Atr.cells] at hj;subst hj;go_simp
       | n+2,hj=>simp[Atr.cells] at hj
      ·intro v8 w8 hown8 hx8 hfr8
       obtain ⟨g8,n8,c8,rfl⟩:∃ g8 n8 c8,v8=.slice g8 n8 c8:=by
        rcases hown8.eq_slice with ⟨e,_⟩|⟨g,c,e,_⟩
        ·exact ⟨_,_,_,e⟩
        ·exact ⟨_,_,_,e⟩
       have hbk:∀ j,(Sl.mk sa sn sc).val.ownBlock=some j→w2.heap.size≤j∧j<wr.heap.size:=fun j hj=>HO.out.blk j hj
       have hnb8:=(HNB.out.ext (((Ext.refl (fun _=>False) _).alloc _).alloc _) (fun f=>f)).ext hx8 (fun e=>by have:=hbk _ e;omega)
       obtain ⟨z0,z1,z2,z3,z4,z5,zf⟩:=hnb8.cells
       have zf3:=zf 3
       clear zf z0 z1 z2 z4 z5
       simp only at z3
       have HN8:=Lib.hid hnb8
       have HO8:=Lib.hid hown8
       have hx9:Ext (·=nb) w2 w8:=Ext.new2 ((HX.out.alloc _).alloc _) hx8 (fun j hj e=>by have:=hbk _ e;omega)
       have HX8:=Lib.hid hx9
       have hw8:w2.heap.size≤w8.heap.size:=hx9.size
       have hob8:∀ j,(Value.slice g8 n8 c8).ownBlock=some j→j≠nb:=fun j hj e=>by have:=(hown8.blk j hj).1;omega
       clear hnb8 hown8 hx8 hfr8 hx9 y0 y1 g3
       go_wp2_with fail
       go_roundg (L.length - (k+1))
       case measure=>rw[HG.out];omega
       case rel =>
        refine ⟨k+1,⟨g8,n8,c8⟩,rfl,hlt,by go_num,?_,?_,Jh (HX8.out.setCell (p:=⟨nb,3,none⟩) (.inr rfl) _)⟩
        ·rw[HST.out,HRP.out];unfold Yp;rw[if_neg HV.out,if_neg HN.out];exact Jh (HN8.out.setAttrs ⟨g8,n8,c8⟩)
        ·rw[HST.out,HRP.out];unfold Yp;rw[if_neg HV.out,if_neg HN.out];exact Jh ((HO8.out.ext (S:=(·=nb)) ((Ext.refl (·=nb) w8).setCell (p:=⟨nb,3,none⟩) (.inr rfl) _) (fun j hj e=>hob8 j hj e)))
   ·obtain rfl:k=L.length:=by omega
    have hkk:¬ (L.length:Int)<(L.length:Int):=by omega
    rw[List.take_length] at HNB HO
    obtain ⟨g0,g1,g2,g3,g4,g5,gf⟩:=HNB.out.cells
    clear gf
    have hne:w.heap.size+1≠nb:=by omega
    have hrc:=HRC2.out.ext HX.out (fun e=>hne e)
    obtain ⟨r0,r1,r2,r3,r4,r5,rf⟩:=hrc.cells
    have rf0:=rf 0
    have rf1:=rf 1
    have rf2:=rf 2
    have rf3:=rf 3
    have rf4:=rf 4
    have rf5:=rf 5
    have HR2:=Lib.hid hrc
    unfold Z5 at r3 r4 r5
    simp only at r0 r1 r2 r3 r4 r5
    clear rf hlt hk hrc
    go_wp2_with fail
    (try simp only[Exit.inBlock,Exit.then])
    refine bodyPost_ret (v:=.agg #[.int .i64 u.n,.int .i64 u.r,.string (X4 L).1,.slice sv.a sv.n sv.cap,.slice qs.a qs.n qs.cap,.slice ks.a ks.n ks.cap]) (by rw[Xz rfl];go_simp) rfl ?_
    have hfx:Ext (·=w.heap.size+1) wr ((((((wr.setCell ⟨w.heap.size+1,0,none⟩ (.int .i64 u.n)).setCell ⟨w.heap.size+1,1,none⟩ (.int .i64 u.r)).setCell ⟨w.heap.size+1,2,none⟩ (.string (X4 L).1)).setCell ⟨w.heap.size+1,3,none⟩ (.slice sv.a sv.n sv.cap)).setCell ⟨w.heap.size+1,4,none⟩ (.slice qs.a qs.n qs.cap)).setCell ⟨w.heap.size+1,5,none⟩ (.slice ks.a ks.n ks.cap)) :=
     ((((((Ext.refl (·=w.heap.size+1) wr).setCell (p:=⟨w.heap.size+1,0,none⟩) (.inr rfl) _).setCell (p:=⟨w.heap.size+1,1,none⟩) (.inr rfl) _).setCell (p:=⟨w.heap.size+1,2,none⟩) (.inr rfl) _).setCell (p:=⟨w.heap.size+1,3,none⟩) (.inr rfl) _).setCell (p:=⟨w.heap.size+1,4,none⟩) (.inr rfl) _).setCell (p:=⟨w.heap.size+1,5,none⟩) (.inr rfl) _
    have hb2s:=HB2.out.size
    have ho2:=HO.out.ext hfx (fun j hj e=>by have:=(HO.out.blk j hj).1;omega)
    refine ⟨⟨u,(X4 L).1,sv,qs,ks⟩,rfl,?_,Ext.new (Ext.new HB2.out HX.out (fun i hi _ e=>by omega) hb2s) hfx (fun i hi _ e=>by omega) (by omega)⟩
    unfold Vw.nd
    rw[HLL.out]
    refine Zh.make rfl rfl ((ho2.sliceD (fun _=>rfl)).mono (fun j hj=>by have:=(ho2.blk j hj).1;omega)) ?_ (vs:=vs) ?_ ?_
    ·exact (((HCE.out.2.1.ext HX.out (fun j hj _ e=>hj.2 e)).ext hfx (fun j hj _ e=>by omega)).mono (fun j hj=>by omega))
    ·exact (((HCE.out.2.2.1.ext HX.out (fun j hj _ e=>hj.2 e) (fun _=>Nat.zero_lt_succ 5)).ext hfx (fun j hj _ e=>by omega) (fun _=>Nat.zero_lt_succ 5)).mono (fun j hj=>by omega))
    ·exact (((HCE.out.2.2.2.ext HX.out (fun j hj _ e=>hj.2 e)).ext hfx (fun j hj _ e=>by omega)).mono (fun j hj=>by omega))
end Go.Proofs.YtlgipkemoldckaaGreatDoor
namespace Go.Proofs.YtlgipkemoldckaaGreatDoor
open Go.RowKit Go.Shelf
def BdF (B b:Nat) (l:List UInt8) (w:World):Prop:=Lib.IsBuilderF 66 5 B b (Lib.byteCells l) w
def KpO (b:Nat) (w w':World):Prop:=Lib.OthersKept 5 (some b) w w'
theorem BdF.keepW {B b:Nat} {l:List UInt8} {w w':World} (h:BdF B b l w) (hk:∀ k,k<w.heap.size→w'.heap[k]?=w.heap[k]?):BdF B b l w':=by
 have go:∀ p,Lib.BuilderAtF 66 5 B b p (Lib.byteCells l) w→Lib.BuilderAtF 66 5 B b p (Lib.byteCells l) w':=by
  rintro p ⟨hB,v,hb,⟨h1,h2⟩,hne⟩
  have hlt:∀ k o,w.heap[k]?=some o→w'.heap[k]?=some o:=fun k o e=>(hk k (Array.getElem?_eq_some_iff.1 e).1).trans e
  refine ⟨hB,v,hlt _ _ hb,⟨h1,?_⟩,hne⟩
  rcases h2 with h2|⟨g,cap,cur,fz,e1,e2,e3,rest⟩
  ·exact .inl h2
  ·exact .inr ⟨g,cap,cur,fz,e1,e2,hlt _ _ e3,rest⟩
 exact h.elim (fun x=>.inl (go _ x)) (fun x=>.inr (go _ x))
theorem BdF.below {B b:Nat} {l:List UInt8} {w w':World} (h:BdF B b l w) (hb:Below w.heap.size w w'):BdF B b l w':=h.keepW hb.block
theorem BdF.alloc {B b:Nat} {l:List UInt8} {w:World} (h:BdF B b l w) (o:Obj):BdF B b l (w.alloc o):=Lib.IsBuilderF.alloc h o
theorem BdF.lt {B b:Nat} {l:List UInt8} {w:World} (h:BdF B b l w):B≤b∧b<w.heap.size:=h.elim (fun x=>⟨x.1,x.lt⟩) (fun x=>⟨x.1,x.lt⟩)
theorem KpO.refl (b:Nat) (w:World):KpO b w w:=Lib.OthersKept.refl _ _ _
theorem KpO.trans {b:Nat} {w w' w'':World} (h:KpO b w w') (k:KpO b w' w''):KpO b w w'':=Lib.OthersKept.trans h k
theorem KpO.of_below {b:Nat} {w w':World} (h:Below w.heap.size w w'):KpO b w w':=fun k o e _ _=>(h.block k (Array.getElem?_eq_some_iff.1 e).1).trans e
theorem KpO.alloc {b:Nat} {w w':World} (h:KpO b w w') (o:Obj):KpO b w (w'.alloc o):=Lib.OthersKept.alloc h o
theorem KpO.block {b:Nat} {w w':World} (h:KpO b w w') {k:Nat} {cs:Array Value} {t:TypeId} {fz:Nat × Nat} (e:w.heap[k]?=some (.cells cs t fz)) (hk:k≠b) (ht:t≠5):w'.heap[k]?=some (.cells cs t fz) :=
 h k _ e (fun e=>hk (Option.some.inj e)) (fun c f e2=>by cases e2;exact ht rfl)
theorem BdF.ne {B b:Nat} {l:List UInt8} {w:World} (h:BdF B b l w) {k:Nat} {cs:Array Value} {t:TypeId} {fz:Nat × Nat} (e:w.heap[k]?=some (.cells cs t fz)) (ht:t≠66):k≠b:=by
 rintro rfl
 rcases h with ⟨_,v,hb,_⟩|⟨_,v,hb,_⟩ <;> (rw[e] at hb;cases hb;exact ht rfl)
theorem BdF.fresh {B b:Nat} {w:World} (hB:B≤b) (h:w.heap[b]?=some (.cells #[.pointer none,.slice none 0 0] 66 (0,0))):BdF B b [] w :=
 .inl ⟨hB,.slice none 0 0,h,⟨rfl,.inl ⟨rfl,rfl⟩⟩,by simp[Value.ownBlock]⟩
theorem Z08:Lays.n166 Tryz.prog Tryz.repF_ren:={ Tryz.repF with }
theorem T5:Builder.Extra Tryz.prog Tryz.repF_ren where
 sizeBuilder:=by kernel_rfl
 liesBuilder:=by kernel_rfl
 t5:=Tryz.underlying5
 a5:=Tryz.isAgg5
 z5:=Tryz.sizeOf5
 v5:=Tryz.zeroValue5
 infoByte:=by kernel_rfl
 cellsByte:=by kernel_rfl
 sizeByte:=by kernel_rfl
 neB5:=by decide
theorem V3 (B b:Nat) (l:List UInt8) (s:ByteArray) (w:World) (h:BdF B b l w) (hl:l.length+s.size≤140737488355328) (hB:B≤w.heap.size) :
  Calls Tryz.prog 49 #[.pointer (some ⟨b,0,none⟩),.string s] w fun e w'=>e=.returned (.tuple #[.int .i64 s.size,.nilIface])∧BdF B b (l++s.data.toList) w'∧Below B w w'∧KpO b w w':=by
 refine (Any.Builder_WriteString_k Z08 T5 B b (Lib.byteCells l) s w h (by rw[Lib.byteCells_length];exact hl) hB).mono ?_
 rintro e w' ⟨rfl,h1,h2,h3⟩
 refine ⟨rfl,?_,h2,h3⟩
 rw[Lib.strCells_eq,←Lib.byteCells_append] at h1
 exact .inr h1
theorem Z03:Lays.n169 Tryz.prog Tryz.repF_ren:={ Tryz.repF with }
theorem Tf (B b:Nat) (l:List UInt8) (w:World) (h:BdF B b l w) (hB:B≤w.heap.size) :
  Calls Tryz.prog 29 #[.pointer (some ⟨b,0,none⟩)] w fun e w'=>e=.returned (.string ⟨l.toArray⟩)∧BdF B b l w'∧Below B w w'∧KpO b w w' :=
 Any.Builder_String_any_k Z03 T5 B b l w h hB
def Yg (ss:List ByteArray):List UInt8:=ss.flatMap fun s=>s.data.toList
theorem Uv {ss:List ByteArray} {k:Nat} {s:ByteArray} (h:ss[k]?=some s):Yg (ss.take (k+1))=Yg (ss.take k)++s.data.toList:=by
 unfold Yg
 rw[List.take_add_one,h,Option.toList_some,List.flatMap_append]
 simp
theorem T0 (ss:List ByteArray) (k:Nat):(Yg (ss.take k)).length≤(Yg ss).length:=by
 conv=>rhs;rw[←List.take_append_drop k ss]
 unfold Yg
 rw[List.flatMap_append,List.length_append]
 omega
def XL (B b:Nat) (l x:List UInt8) (w:World) (e:Ending) (w':World):Prop:=e=.returned (.tuple #[])∧BdF B b (l++x) w'∧Below B w w'∧KpO b w w'
theorem XM (B b g:Nat) (l:List UInt8) (ss:List ByteArray) (fz:Nat × Nat) (w:World) (h:BdF B b l w) (hg:w.heap[g]?=some (.cells (ss.map Value.string).toArray 9 fz)) (hl:l.length+(Yg ss).length≤140737488355328) (hB:B≤w.heap.size) (hs:ss.length≤1000) :
  Calls Tryz.prog 77 #[.slice (some ⟨g,0,none⟩) ss.length ss.length,.pointer (some ⟨b,0,none⟩)] w fun e w'=>XL B b l (Yg ss) w e w':=by
 have hgb:g≠b:=h.ne hg (by decide)
 have HH:=Lib.hid h
 have HG:=Lib.hid hg
 clear h hg
 go_enter Tryz.func77,Tryz.ntmps77
 go_wp2_with fail
 go_loopg [7] ss.length (fun n iv wr=>∃ k:Nat,n=ss.length - k∧k≤ss.length∧iv=.int .i64 k∧Hid (BdF B b (l++Yg (ss.take k)) wr)∧Hid (Below B w wr)∧Hid (KpO b w wr))
 case atStart=>exact ⟨0,by omega,by omega,rfl,Jh (by simpa [Yg] using HH.out),Jh (Below.refl _ _),Jh (KpO.refl _ _)⟩
 case round =>
  obtain ⟨k,hn,hk,rfl,H1,H2,H3⟩:=hrel
  have HN:=Lib.hid hn
  clear hn
  by_cases hkl:k<ss.length
  ·obtain ⟨s,hs1⟩:∃ s,ss[k]?=some s:=⟨_,List.getElem?_eq_getElem hkl⟩
   have hgw:=H3.out.block HG.out hgb (by decide)
   have c0:wr.cell? ⟨g,0+k*1,none⟩=some (.string s):=by
    rw[Lib.cell_of_heap hgw]
    simp[hs1]
   rw[Nat.zero_add,Nat.mul_one] at c0
   have hkk:(k:Int)<(ss.length:Int):=by omega
   have hct:=T0 ss (k+1)
   rw[Uv hs1,List.length_append] at hct
   have hsz:s.data.toList.length=s.size:=by rw[Array.length_toList];rfl
   have HW:=Jh (V3 B b (l++Yg (ss.take k)) s wr H1.out (by rw[List.length_append];omega) (by have:=H2.out.size;omega))
   have HS:=Lib.hid hs1
   clear hgw hs1 hct hsz
   go_wp2_with fail
   refine HW.out.mono ?_
   rintro e w5 ⟨rfl,g1,g2,g3⟩
   have G1:=Jh (by rw[List.append_assoc,←Uv HS.out] at g1;exact g1)
   have G2:=Jh (H2.out.trans g2)
   have G3:=Jh (H3.out.trans g3)
   clear g1 g2 g3 c0
   go_wp2_with fail
   go_roundg (ss.length - (k+1))
   case measure=>rw[HN.out];omega
   case rel=>exact ⟨k+1,rfl,hkl,by go_num,G1,G2,G3⟩
  ·have hkk:¬ ((k:Int)<(ss.length:Int)):=by omega
   go_wp2_with fail
   go_end0
   refine ⟨rfl,?_,H2.out,H3.out⟩
   have:=H1.out
   rwa [List.take_of_length_le (by omega)] at this
end Go.Proofs.YtlgipkemoldckaaGreatDoor
