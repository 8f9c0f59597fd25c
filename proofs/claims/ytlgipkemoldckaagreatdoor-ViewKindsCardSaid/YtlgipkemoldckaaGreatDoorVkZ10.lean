/- ViewKinds, part 10 of what the proof leans on (made short by a program). -/
import Derived.Test.YtlgipkemoldckaaGreatDoorVkZ9
import Derived.Laws.EntriesVeiled
set_option linter.unusedSimpArgs false
set_option linter.unusedVariables false
set_option linter.unusedSectionVars false
set_option maxRecDepth 20000
set_option maxHeartbeats 30000000
namespace Go.Proofs.YtlgipkemoldckaaGreatDoor
open Go.RowKit
attribute [local go_sem] Oper.semAt_some
attribute [local go_sem] Z6.alloc Z6.drew Z6.setCell
theorem Z1J:(Tryz.prog.info? 183).map (fun i=>(i.zero,i.size,i.bytes))=some (some (.agg (Zb.cells ⟨⟨⟨0,0⟩,0,0,0,0,0,0,0,0,0,⟨0,0⟩,0,0,⟨0,0⟩,⟨#[]⟩,⟨#[]⟩,⟨#[]⟩,⟨0,0⟩,false,⟨0,0⟩,false⟩,0,0⟩).toArray),28,248):=by kernel_rfl
theorem Z37:XW Tryz.prog 181 26:=⟨fun w=>by kernel_rfl,fun w=>by kernel_rfl⟩
theorem So (o:OpD) (p q:Int) (W:World):(Instr.build 183 #[(0,.agg (OpD.cells o).toArray),(1,.int .i64 p),(2,.int .i64 q)]).run Tryz.prog W=.ok (.agg (Zb.cells ⟨o,p,q⟩).toArray) W:=by kernel_rfl
theorem Sg (x:Zb) (W:World):(Instr.buildSlice 140 1 #[(0,.agg (Zb.cells x).toArray)]).run Tryz.prog W=.ok (.slice (some ⟨W.heap.size,0,none⟩) 1 1) (W.alloc (.cells (Zb.cells x).toArray 183)):=by kernel_rfl
theorem Z1w (va vb:Option Addr) (ca cb:Nat) (l:List El) (ms:List OpD) (w:World) (hl:Z5 El.cells 4 w (.slice va l.length ca) l) (hm:Z5 OpD.cells 26 w (.slice vb ms.length cb) ms) (hln:l.length≤1000) (hmn:ms.length≤1000) :
  Calls Tryz.prog 68 #[.slice va l.length ca,.slice vb ms.length cb] w
   fun e w'=>∃ v F,e=.returned v∧Own Zb.cells 28 183 w.heap.size w' v F∧XS ZK Sj (Yw (Zy (Ze l)) (Ze ms)) F∧Below w.heap.size w w':=by
 have hmm:=@run_makeMap Tryz.prog
 refine (callsIn_wide (n:=5)).1 ?_
 refine callsIn_of_wp_marks Tryz.func68 rfl trivial ?_ rfl
 simp only[Tryz.ntmps68,List.size_toArray,List.length_cons,List.length_nil,Nat.reduceAdd,Nat.reduceSub,Array.replicate_succ,Array.replicate_zero,List.push_toArray,List.append_toArray,List.nil_append,List.cons_append]
 gi_wp2
 refine ⟨trivial,?_⟩
 refine (callsIn_wide.2 (Z0h va l.length ca _)).mono ?_
 rintro e w' ⟨rfl,rfl⟩
 gi_wp2
 have hB0:Below w.heap.size w (((w.alloc (.map #[] 0)).alloc (.cells #[.map (some w.heap.size)] 135)).alloc (.cells #[.slice va l.length ca] 34)):=(((Below.refl _ _).alloc (Nat.le_refl _) _).alloc (by simp) _).alloc (by simp;omega) _
 have m0:Z6 St.val Yy (((w.alloc (.map #[] 0)).alloc (.cells #[.map (some w.heap.size)] 135)).alloc (.cells #[.slice va l.length ca] 34)) w.heap.size []:=((Z6.made w).alloc _).alloc _
 have p0:(((w.alloc (.map #[] 0)).alloc (.cells #[.map (some w.heap.size)] 135)).alloc (.cells #[.slice va l.length ca] 34)).cell? ⟨w.heap.size+1,0,none⟩=some (.map (some w.heap.size)):=by go_simp
 have s0:(((w.alloc (.map #[] 0)).alloc (.cells #[.map (some w.heap.size)] 135)).alloc (.cells #[.slice va l.length ca] 34)).cell? ⟨w.heap.size+1+1,0,none⟩=some (.slice va l.length ca):=by go_simp
 have z0:(((w.alloc (.map #[] 0)).alloc (.cells #[.map (some w.heap.size)] 135)).alloc (.cells #[.slice va l.length ca] 34)).heap.size=w.heap.size+3:=by simp
 generalize ((w.alloc (.map #[] 0)).alloc (.cells #[.map (some w.heap.size)] 135)).alloc (.cells #[.slice va l.length ca] 34)=W0 at *
 have hl0:=hl.below hB0
 refine Ss (U:=Nat × El) (by omega) (gf:=127) (lb:=#[.pointer (some ⟨w.heap.size+1+1,0,none⟩)]) rfl (enters_of Tryz.func127 (by kernel_rfl) rfl)
  (fun x=>#[.int .i64 x.1,.agg #[.int .i64 x.2.id.n,.int .i64 x.2.id.r,.int .i64 x.2.ch,.bool x.2.gone]]) (fun _=>rfl) (·=w.heap.size) (fun k e=>by omega) (Ze l)
  (fun pre W=>Z6 St.val Yy W w.heap.size (Zy pre)∧Ext (·=w.heap.size) W0 W)
  (fun pre W W' h hx=>⟨h.1.ext hx (fun e=>by have:=h.1.lt;rcases e with e|e <;> omega),h.2.andThen hx (fun i hi e=>by rcases e with e|e <;> omega)⟩)
  (RM 4 (by omega) (w.heap.size+1+1) _ l (·=w.heap.size) W0 hl0 (by omega) s0 (by omega) (fun hne b o m c e=>?_)) ⟨m0,Ext.refl _ _⟩ ?_ ?_
 ·cases e
  obtain ⟨_,_,e1,_,_,h4⟩:=hl
  cases e1
  obtain ⟨b',o',e2,h5⟩:=h4 hne
  cases e2
  obtain ⟨x,hx⟩:∃ x,l[0]?=some x:=by
   cases l with
   | nil=>exact absurd rfl hne
   | cons x r=>exact ⟨x,rfl⟩
  have:=Zj (h5 0 x hx 0 _ rfl)
  constructor <;> omega
 ·intro lb pre x W ⟨hM,hX⟩ hpx hlt
  gi_wp2
  refine ⟨(Ext.refl _ _).alloc _,⟨hM.alloc _,hX.alloc _⟩,fun W2 ⟨hM2,hX2⟩ hx2=>?_⟩
  have hlW:=hX.size
  have b0:W2.cell? ⟨W.heap.size,0,none⟩=some (.int .i64 x.2.id.n):=hx2.keep (by go_simp) (by omega)
  have b1:W2.cell? ⟨W.heap.size,1,none⟩=some (.int .i64 x.2.id.r):=hx2.keep (by go_simp) (by omega)
  have q0:=hX2.keep p0 (by omega)
  have hupd:∀ W,Z6 St.val Yy W w.heap.size (Zy pre)→(Instr.mapUpdate 135 (.map (some w.heap.size)) (.agg #[.int .i64 x.2.id.n,.int .i64 x.2.id.r]) (.int .i64 x.1)).run Tryz.prog W=.ok () (Zp W w.heap.size (Zr (Zy pre) x.2.id) x.2.id.val (Yy x.1)):=fun W hW=>hW.update ZN Wa x.2.id (Yy x.1)
  have HX2:=Lib.hid hX2
  have HP:=Jh (hM2.put x.2.id (x.1:Int))
  clear hx2 hX2
  gi_wp2
  refine ⟨⟨by rw[QE];exact HP.out,HX2.out.mapPut (.inl rfl) _ _ _⟩,Xr _ _ _ _ _⟩
 ·intro W ⟨hM,hX⟩ hK
  have HM:=Lib.hid hM
  have HX:=Lib.hid hX
  have HK:=Lib.hid hK
  have HB0:=Lib.hid hB0
  have HP0:=Lib.hid p0
  clear hM hX hK m0 p0 s0 hl0 hB0
  gi_wp2
  refine ⟨trivial,?_⟩
  refine (callsIn_wide.2 (Z0a vb ms.length cb _)).mono ?_
  rintro e w' ⟨rfl,rfl⟩
  gi_wp2
  have hlW:=HX.out.size
  have hzW:w.heap.size+3<W.heap.size:=by
   have:=(Array.getElem?_eq_some_iff.1 HK.out).1
   omega
  have hBW:Below w.heap.size w W:=Ext.new HB0.out HX.out (fun i hi _ e=>by omega) (by omega)
  have pW:=HX.out.keep HP0.out (by omega)
  have hn0:(((W.alloc (.cells #[.func (.func 95) #[] #[.pointer (some ⟨w.heap.size+1,0,none⟩)]] 172)).alloc (.cells #[.slice none 0 0] 140)).alloc (.cells #[.slice vb ms.length cb] 37)).heap.size=W.heap.size+3:=by simp
  have hBB:Below W.heap.size W (((W.alloc (.cells #[.func (.func 95) #[] #[.pointer (some ⟨w.heap.size+1,0,none⟩)]] 172)).alloc (.cells #[.slice none 0 0] 140)).alloc (.cells #[.slice vb ms.length cb] 37)):=(((Below.refl _ _).alloc (Nat.le_refl _) _).alloc (by simp) _).alloc (by simp;omega) _
  have hm1:Z6 St.val Yy (((W.alloc (.cells #[.func (.func 95) #[] #[.pointer (some ⟨w.heap.size+1,0,none⟩)]] 172)).alloc (.cells #[.slice none 0 0] 140)).alloc (.cells #[.slice vb ms.length cb] 37)) w.heap.size (Zy (Ze l)):=HM.out.below hBB
  have p1:=Z0 hBB pW
  have k1:=(hBB.block _ (Array.getElem?_eq_some_iff.1 HK.out).1).trans HK.out
  have f1:(((W.alloc (.cells #[.func (.func 95) #[] #[.pointer (some ⟨w.heap.size+1,0,none⟩)]] 172)).alloc (.cells #[.slice none 0 0] 140)).alloc (.cells #[.slice vb ms.length cb] 37)).cell? ⟨W.heap.size,0,none⟩=some (.func (.func 95) #[] #[.pointer (some ⟨w.heap.size+1,0,none⟩)]):=by go_simp
  have o1:(((W.alloc (.cells #[.func (.func 95) #[] #[.pointer (some ⟨w.heap.size+1,0,none⟩)]] 172)).alloc (.cells #[.slice none 0 0] 140)).alloc (.cells #[.slice vb ms.length cb] 37)).heap[W.heap.size+1]?=some (.cells #[.slice none 0 0] 140 (0,0)):=by
   rw[Below.heap_alloc _ _ _ (by simp)]
   have:=World.alloc_heap_new (W.alloc (.cells #[.func (.func 95) #[] #[.pointer (some ⟨w.heap.size+1,0,none⟩)]] 172)) (.cells #[.slice none 0 0] 140)
   rwa [World.size_alloc] at this
  have s1:(((W.alloc (.cells #[.func (.func 95) #[] #[.pointer (some ⟨w.heap.size+1,0,none⟩)]] 172)).alloc (.cells #[.slice none 0 0] 140)).alloc (.cells #[.slice vb ms.length cb] 37)).cell? ⟨W.heap.size+2,0,none⟩=some (.slice vb ms.length cb):=by go_simp
  have hB1:Below w.heap.size w (((W.alloc (.cells #[.func (.func 95) #[] #[.pointer (some ⟨w.heap.size+1,0,none⟩)]] 172)).alloc (.cells #[.slice none 0 0] 140)).alloc (.cells #[.slice vb ms.length cb] 37)):=hBW.trans (hBB.mono (by omega))
  have hmm1:=hm.below hB1
  clear HM HX HK HB0 HP0 hBW pW hBB
  generalize ((W.alloc (.cells #[.func (.func 95) #[] #[.pointer (some ⟨w.heap.size+1,0,none⟩)]] 172)).alloc (.cells #[.slice none 0 0] 140)).alloc (.cells #[.slice vb ms.length cb] 37)=W1 at *
  refine Ss (U:=Nat × OpD) (by omega) (gf:=128) (lb:=#[.pointer (some ⟨W.heap.size+2,0,none⟩)]) rfl (enters_of Tryz.func128 (by kernel_rfl) rfl)
   (fun x=>#[.int .i64 x.1,.agg (OpD.cells x.2).toArray]) (fun _=>rfl) (fun k=>k=W.heap.size+1∨W1.heap.size+1<k) (fun k e=>by omega) (Ze ms)
   (fun pre A=>∃ v,A.heap[W.heap.size+1]?=some (.cells #[v] 140 (0,0))∧Own Zb.cells 28 183 (W.heap.size+5) A v (Yw (Zy (Ze l)) pre)∧Ext (·=W.heap.size+1) W1 A)
   (fun pre A A' h hx=>?_)
   (Q0 4 (by omega) (W.heap.size+2) _ ms _ W1 hmm1 (by omega) s1 (by omega) (fun hne b o m c e=>?_)) ⟨_,o1,Own.nil,Ext.refl _ _⟩ ?_ ?_
  ·obtain ⟨v,h1,h2,h3⟩:=h
   have hlt:=(Array.getElem?_eq_some_iff.1 h1).1
   exact ⟨v,(hx.block _ hlt (by omega)).trans h1,h2.ext hx (fun b hb e=>by have:=(h2.blk b hb).1;omega),h3.andThen hx (fun i hi e=>by omega)⟩
  ·cases e
   obtain ⟨_,_,e1,_,_,h4⟩:=hm
   cases e1
   obtain ⟨b',o',e2,h5⟩:=h4 hne
   cases e2
   obtain ⟨x,hx⟩:∃ x,ms[0]?=some x:=by
    cases ms with
    | nil=>exact absurd rfl hne
    | cons x r=>exact ⟨x,rfl⟩
   have:=Zj (h5 0 x hx 0 _ rfl)
   constructor <;> omega
  ·rintro lb pre x A ⟨v,ho,hown,hx⟩ hpx hlt
   have hxl:x.2∈ms:=by
    have:=hpx.mem (List.mem_append_right pre (List.mem_singleton.2 rfl))
    exact Z0c this
   have hpl:(Yw (Zy (Ze l)) pre).length≤1000:=by
    have h1:=VR (Zy (Ze l)) pre
    have h2:=hpx.length_le
    rw[XB] at h2
    simp at h2
    omega
   gi_wp2_with (refine UH (T:=181) rfl rfl rfl rfl (XL Z37 rfl (OpD.len x.2) (OpD.one x.2)) ?_)
   refine ⟨(Ext.refl _ _).alloc _,⟨v,?_,hown.alloc _,hx.alloc _⟩,?_⟩
   ·exact (Below.heap_alloc _ _ _ (Array.getElem?_eq_some_iff.1 ho).1).trans ho
   rintro A2 ⟨v2,ho2,hown2,hxA2⟩ hx2
   have hlA:=hx2.size
   rw[World.size_alloc] at hlA
   have hb:∀ j u,(OpD.cells x.2)[j]?=some u→A2.cell? ⟨A.heap.size,j,none⟩=some u:=fun j u h=>hx2.keep (ZG j u h) (by omega)
   have b20:A2.cell? ⟨A.heap.size,20,none⟩=some (.int .i64 x.2.fr.n):=hb 20 _ rfl
   have b21:A2.cell? ⟨A.heap.size,21,none⟩=some (.int .i64 x.2.fr.r):=hb 21 _ rfl
   have b22:A2.cell? ⟨A.heap.size,22,none⟩=some (.bool x.2.fa):=hb 22 _ rfl
   have b23:A2.cell? ⟨A.heap.size,23,none⟩=some (.int .i64 x.2.tr.n):=hb 23 _ rfl
   have b24:A2.cell? ⟨A.heap.size,24,none⟩=some (.int .i64 x.2.tr.r):=hb 24 _ rfl
   have b25:A2.cell? ⟨A.heap.size,25,none⟩=some (.bool x.2.ta):=hb 25 _ rfl
   have fA:=hxA2.keep f1 (by omega)
   have pA:=hxA2.keep p1 (by omega)
   have mA:=hm1.ext hxA2 (by omega)
   have hbnd:∀ k i,Z3 (Zy (Ze l)) k=some i→0≤i∧i≤1000:=fun k i h=>QA hln k i h
   have HB:=Lib.hid hb
   have HO2:=Lib.hid ho2
   clear hb ho2 ho hx2 hx hown hB1 hmm1 hmm k1 o1 s1
   gi_wp2
   refine ⟨by first|trivial|(intros;omega),?_⟩
   refine (CallsIn.inRound lb (callsIn_wide.2 (Z2a (w.heap.size+1) w.heap.size (Zy (Ze l)) x.2.fr x.2.fa A2 pA mA hbnd))).mono ?_
   rintro e A3 ⟨rfl,hb3⟩
   have c23:=Z0 hb3 b23
   have c24:=Z0 hb3 b24
   have c25:=Z0 hb3 b25
   have fB:=Z0 hb3 fA
   have pB:=Z0 hb3 pA
   have mB:=mA.below hb3
   have HB3:=Lib.hid hb3
   clear b20 b21 b22 b23 b24 b25 fA pA mA hb3
   gi_wp2
   refine ⟨by first|trivial|(intros;omega),?_⟩
   refine (CallsIn.inRound lb (callsIn_wide.2 (Z2a (w.heap.size+1) w.heap.size (Zy (Ze l)) x.2.tr x.2.ta A3 pB mB hbnd))).mono ?_
   rintro e A4 ⟨rfl,hb4⟩
   have hb5:=HB3.out.trans (hb4.mono HB3.out.size)
   clear c23 c24 c25 fB pB mB hb4 hbnd HB3
   have hb6:∀ j u,(OpD.cells x.2)[j]?=some u→A4.cell? ⟨A.heap.size,0+j,none⟩=some u:=fun j u h=>by rw[Nat.zero_add];exact Z0 hb5 (HB.out j u h)
   have HLD:=Jh (V9 (P:=Tryz.prog) Z37 (OpD.len x.2) hb6)
   have ho4:=(hb5.block _ (Array.getElem?_eq_some_iff.1 HO2.out).1).trans HO2.out
   have hc4:A4.cell? ⟨W.heap.size+1,0,none⟩=some v2:=by simp[World.cell?,ho4]
   have hown4:=hown2.ext (Ext.of_below (S:=fun _=>False) hb5) (fun _ _ f=>f)
   have hx4:=hxA2.then_below hb5
   have hx24:Ext (fun _=>False) A2 A4:=Ext.of_below hb5
   have HO4:=Lib.hid ho4
   have HX4:=Lib.hid hx4
   have HX24:=Lib.hid hx24
   have hs4:=hx4.size
   have hs24:=hx24.size
   clear ho4 hx4 hx24 hb5 hb6 HO2 hown2 hxA2 HB
   have hsn:Yw (Zy (Ze l)) (pre++[x])=Yw (Zy (Ze l)) pre++(Yj (Zy (Ze l)) x.2).toList:=R6 _ _ _
   cases hp:(Z3 (Zy (Ze l)) x.2.fr).isSome with
   | false =>
    have HSN:=Lib.hid hsn
    clear hsn
    gi_wp2
    refine ⟨⟨v2,HO4.out,?_,HX4.out⟩,HX24.out.mono (fun _ _ f=>f.elim)⟩
    rw[HSN.out]
    simpa [Yj,hp] using hown4
   | true =>
    cases hq:(Z3 (Zy (Ze l)) x.2.tr).isSome with
    | false =>
     have HSN:=Lib.hid hsn
     clear hsn
     gi_wp2
     refine ⟨⟨v2,HO4.out,?_,HX4.out⟩,HX24.out.mono (fun _ _ f=>f.elim)⟩
     rw[HSN.out]
     simpa [Yj,hp,hq] using hown4
    | true =>
     have hmk:Yj (Zy (Ze l)) x.2=some ⟨x.2,atI (Zy (Ze l)) x.2.fr x.2.fa,atI (Zy (Ze l)) x.2.tr x.2.ta⟩:=by simp[Yj,hp,hq]
     rw[hmk] at hsn
     have HSN:=Lib.hid hsn
     clear hsn hmk
     generalize atI (Zy (Ze l)) x.2.fr x.2.fa=p0 at *
     generalize atI (Zy (Ze l)) x.2.tr x.2.ta=q0 at *
     obtain ⟨i0,hi,hz0,hz1',hz2⟩:=info_parts Z1J
     gi_wp2_with (first
      | ((with_reducible_and_instances refine Vc (o:=⟨some 49,_,_,_,_,_⟩) (x:=.tmp 11) ?_ ?_ ?_ HLD.out ?_);rfl;rfl;rfl)
      | ((with_reducible_and_instances refine Uw (o:=⟨some 52,_,_,_,_,_⟩) (x0:=.tmp 49) (x1:=.tmp 50) (x2:=.tmp 51) ?_ ?_ ?_ ?_ ?_ (So x.2 p0 q0 A4) ?_);rfl;rfl;rfl;rfl;rfl)
      | ((with_reducible_and_instances refine Uv (o:=⟨some 53,_,_,_,_,_⟩) (x0:=.tmp 52) ?_ ?_ ?_ (Sg ⟨x.2,p0,q0⟩ A4) ?_);rfl;rfl;rfl)
      | (gi_at_builtin;refine Wh rfl _ _ _ rfl i0 (.agg (Zb.cells ⟨⟨⟨0,0⟩,0,0,0,0,0,0,0,0,0,⟨0,0⟩,0,0,⟨0,0⟩,⟨#[]⟩,⟨#[]⟩,⟨#[]⟩,⟨0,0⟩,false,⟨0,0⟩,false⟩,0,0⟩).toArray) 248 Tryz.underlying140 hi hz0 hz1' hz2 rfl (by omega) Zb.len Zb.one rfl (hown4.alloc _) ⟨x.2,p0,q0⟩ A4.heap.size 1 rfl (fun j u h=>ZG j u h) (by unfold maxLen;omega) (by omega) (by simp;omega) ?_))
     intro v' A5 hown5 hx5
     obtain ⟨g5,c5,n5,rfl⟩:∃ g5 c5 n5,v'=.slice (some ⟨g5,0,none⟩) n5 c5:=by
      rcases hown5.eq_slice with ⟨_,e⟩|⟨g5,c5,e,_,_⟩
      ·simp at e
      ·exact ⟨g5,c5,_,e⟩
     have hne:∀ b,v2.ownBlock=some b→W.heap.size+5≤b:=fun b hb=>(hown4.blk b hb).1
     have hlt4:=(Array.getElem?_eq_some_iff.1 HO4.out).1
     have ho5:A5.heap[W.heap.size+1]?=some (.cells #[v2] 140 (0,0)):=(hx5.block _ (by simp;omega) (fun e=>by have:=hne _ e;omega)).trans ((Below.heap_alloc _ _ _ hlt4).trans HO4.out)
     have hf5:A5.frozen? ⟨W.heap.size+1,0,none⟩=false:=by simp[World.frozen?,ho5]
     have hc5:A5.cell? ⟨W.heap.size+1,0,none⟩=some v2:=by simp[World.cell?,ho5]
     have hx6:Ext (·=W.heap.size+1) A5 (A5.setCell ⟨W.heap.size+1,0,none⟩ (.slice (some ⟨g5,0,none⟩) n5 c5)):=(Ext.refl (·=W.heap.size+1) A5).setCell (p:=⟨W.heap.size+1,0,none⟩) (.inr rfl) (.slice (some ⟨g5,0,none⟩) n5 c5)
     have r1:(A5.setCell ⟨W.heap.size+1,0,none⟩ (.slice (some ⟨g5,0,none⟩) n5 c5)).heap[W.heap.size+1]?=some (.cells #[.slice (some ⟨g5,0,none⟩) n5 c5] 140 (0,0)):=heap_setCell_same A5 _ 0 #[v2] _ (.slice (some ⟨g5,0,none⟩) n5 c5) ho5
     have r2:=hown5.ext hx6 (fun b hb e=>by have:=(hown5.blk b hb).1;omega)
     have r3:Ext (·=W.heap.size+1) W1 (A5.setCell ⟨W.heap.size+1,0,none⟩ (.slice (some ⟨g5,0,none⟩) n5 c5)):=((HX4.out.alloc _).andThen hx5 (fun i hi e=>by have:=hne _ e;omega)).andThen hx6 (fun i hi e=>e)
     have r4:Ext (fun k=>k=W.heap.size+1∨W1.heap.size+1<k) A2 (A5.setCell ⟨W.heap.size+1,0,none⟩ (.slice (some ⟨g5,0,none⟩) n5 c5)):=((((HX24.out.alloc _).mono (fun _ _ f=>f.elim)).andThen (S:=fun k=>k=W.heap.size+1∨W1.heap.size+1<k) hx5 (fun i hi e=>by have:=hne _ e;omega))).andThen hx6 (fun i hi e=>.inl e)
     have R1:=Lib.hid r1
     have R2:=Lib.hid r2
     have R3:=Lib.hid r3
     have R4:=Lib.hid r4
     clear r1 r2 r3 r4 hx6 hx5 hown5 hown4 ho5 HO4 HX4 HX24 HLD
     gi_wp2
     exact ⟨⟨_,R1.out,by rw[HSN.out];exact R2.out,R3.out⟩,R4.out⟩
  ·rintro A ⟨v,ho,hown,hx⟩ hK
   have hc:A.cell? ⟨W.heap.size+1,0,none⟩=some v:=by simp[World.cell?,ho]
   have hrl:(Yw (Zy (Ze l)) (Ze ms)).length≤1000000:=by
    have h1:=VR (Zy (Ze l)) (Ze ms)
    rw[XB] at h1
    omega
   have hkA:=(hx.block _ (Array.getElem?_eq_some_iff.1 k1).1 (by omega)).trans k1
   have hne:∀ b,v.ownBlock=some b→W.heap.size+5≤b:=fun b hb=>(hown.blk b hb).1
   have HO:=Lib.hid ho
   have HB1:=Jh (Ext.new hB1 hx (fun i hi _ e=>by omega) (by omega))
   have hxs:=hx.size
   clear ho hB1 hx hmm1 hm1 p1 f1 o1 s1 k1 hm hl hmm
   gi_wp2
   refine ⟨trivial,?_⟩
   refine (callsIn_wide.2 (Sm hown hrl)).mono ?_
   rintro e A6 ⟨⟨u,rfl⟩,hq,hx6⟩
   have hk6:=(hx6.block _ (Array.getElem?_eq_some_iff.1 hkA).1 (fun e=>by have:=hne _ e;omega)).trans hkA
   have hK6:=(hx6.block _ (Array.getElem?_eq_some_iff.1 hK).1 (fun e=>by have:=hne _ e;omega)).trans hK
   have ho6:=(hx6.block _ (Array.getElem?_eq_some_iff.1 HO.out).1 (fun e=>by have:=hne _ e;omega)).trans HO.out
   have hc6:A6.cell? ⟨W.heap.size+1,0,none⟩=some v:=by simp[World.cell?,ho6]
   have HB6:=Jh (Ext.new HB1.out hx6 (fun i hi _ e=>by have:=hne _ e;omega) (by omega))
   clear hx6 hown hkA hK hc HO ho6
   gi_wp2
   rw[hn0] at hK6
   rw[z0] at hk6
   have hx7:Ext (·=(W.heap.size+3)) A6 (A6.putObj (W.heap.size+3) (.deferred none)):=Yc _ _ _
   have hk7:=(hx7.block _ (Array.getElem?_eq_some_iff.1 hk6).1 (by omega)).trans hk6
   have hx8:Ext (·=(w.heap.size+3)) (A6.putObj (W.heap.size+3) (.deferred none)) ((A6.putObj (W.heap.size+3) (.deferred none)).putObj (w.heap.size+3) (.deferred none)):=Yc _ _ _
   have hs6:=HB6.out.size
   have hs7:=hx7.size
   obtain ⟨F,hF1,hF2⟩:=hq.out
   refine ⟨by simp,.inl ⟨_,_,rfl,run_takeDeferred hK6,?_⟩⟩
   refine ⟨by simp,.inl ⟨_,_,rfl,run_takeDeferred hk7,?_⟩⟩
   refine ⟨_,results_tmp rfl _ _ _,v,F,rfl,?_,hF1,?_⟩
   ·exact ((hF2.ext hx7 (fun b hb e=>by have:=(hF2.blk b hb).1;omega)).ext hx8 (fun b hb e=>by have:=(hF2.blk b hb).1;omega)).mono (by omega)
   ·exact Ext.new (Ext.new HB6.out hx7 (fun i hi _ e=>by omega) (by omega)) hx8 (fun i hi _ e=>by omega) (by omega)
theorem Z0j:Tryz.prog.underlying 9=some .string:=by kernel_rfl
theorem Xe (a b:ByteArray):(a == b)=decide (a=b):=by
 rw[show (a == b)=(a.data == b.data) from by cases a;cases b;rfl]
 by_cases h:a=b
 ·subst h;simp
 ·have:¬ a.data=b.data:=fun e=>h (by cases a;cases b;cases e;rfl)
  simp[h,this]
theorem Tf {V:Type} (k:ByteArray):∀ (es:List MapEntry) (l:List (ByteArray × V)) (i:Nat),es.map (·.key)=l.map (fun p=>.string p.1) →
  Instr.findNow .string (.string k) es i=some ((Zr l k).map fun j=>(i+j,((es[j]?).map (·.val)).getD undef))
 | [],[],i,_=>by simp[Instr.findNow,Zr]
 | [],_ :: _,_,h=>by simp at h
 | _ :: _,[],_,h=>by simp at h
 | e :: es,p :: l,i,h=>by
  obtain ⟨k',v⟩:=p
  simp only[List.map_cons,List.cons.injEq] at h
  obtain ⟨h1,h2⟩:=h
  have ih:=Tf k es l (i+1) h2
  simp only[Instr.findNow,h1,Instr.sameNow]
  by_cases hk:k'=k
  ·subst hk
   simp[Zr,Xe]
  ·have hk':¬ k=k':=fun e=>hk e.symm
   have:(k == k')=false:=by rw[Xe];simp[hk']
   simp only[this,ih,Zr,hk,if_false]
   cases Zr l k with
   | none=>rfl
   | some j=>simp[Nat.add_assoc,Nat.add_comm 1 j]
theorem Z10 {V:Type}:WF (V:=V) Tryz.prog 9 Value.string where
 check em k w:=by kernel_rfl
 find k es l w h:=by
  simp only[Instr.findKey,Sem.run_bind,run_underlying Z0j,Result.andThen_ok,Tf k es l 0 h,Sem.run_pure]
  cases Zr l k <;> simp
 stays k w:=by simp[Instr.keyThatStays,Instr.sameBits,beq_toListBytes]
end Go.Proofs.YtlgipkemoldckaaGreatDoor
namespace Go.Proofs.YtlgipkemoldckaaGreatDoor
open Go.RowKit Go.Sort Go.Shelf
attribute [local go_sem] Z6.alloc Z6.drew Z6.setCell
instance:Inhabited Atr:=⟨⟨⟨#[]⟩,⟨#[]⟩⟩⟩
def Atr.val (x:Atr):Value:=.agg #[.string x.name,.string x.value]
theorem Z2s (x y:Atr) (w:World) :
  Calls Tryz.prog 99 #[.agg x.cells.toArray,.agg y.cells.toArray] w fun e w'=>e=.returned (.int .i64 (Yv x.name y.name))∧∃ q os',w'=grow (w.drewN q) os':=by
 unfold Atr.cells
 go_enter Tryz.func99,Tryz.ntmps99
 go_wp2_with (go_at_call 62;refine (Ue _ _ _).mono ?_;rintro e w' ⟨rfl,rfl⟩)
 go_ret
 exact ⟨rfl,0,_,by rw[alloc_eq_grow,alloc_eq_grow,grow_grow];rfl⟩
theorem Ro {base:Nat} {w:World} {v:Value} {l:List Atr} (h:Own Atr.cells 2 73 base w v l) (hl:l.length<4611686018427387904) :
  Calls Tryz.prog 60 #[v,.func (.func 99) #[] #[]] w fun e w'=>e=.returned (.tuple #[])∧∃ l',l'.Perm l∧l'.Pairwise (fun a b=>ltOf (fun x y:Atr=>Yv x.name y.name) b a=false)∧Own Atr.cells 2 73 base w' v l'∧Ext (fun b=>v.ownBlock=some b) w w':=by
 have eg:∀ args w,(callFunc 99 args).run Tryz.prog w=.ok (.enter 99 args) w:=enters_of Tryz.func99 (by kernel_rfl) rfl
 refine Tz (fun _=>rfl) (by omega) (fun blk cap d w hH hb hs=>?_) (fun p cap w=>?_) h hl
 ·exact AnyQ.slices_SortFunc Tryz.sortAttr 2 Tryz.isAgg73 Tryz.sizeOf73 Atr.cells (fun _=>rfl) (fun x v hv=>by simp[Atr.cells] at hv;rcases hv with rfl|rfl <;> rfl) (fun x y=>Yv x.name y.name) Tx 99 #[] blk 0 cap d w eg (fun _ _ _ _ x y=>Z2s x y _) hH hb hs
 ·exact AnyF.slices_SortFunc_none Tryz.sortAttr p cap _ w
def Yt (F:List Zb) (i:Int):List (ByteArray × Atr):=F.foldl (fun h x=>if x.lo≤i∧i<x.hi then Zw h x.op.name ⟨x.op.name,x.op.value⟩ else h) []
theorem Z1E (F:List Zb) (x:Zb) (i:Int):Yt (F++[x]) i=if x.lo≤i∧i<x.hi then Zw (Yt F i) x.op.name ⟨x.op.name,x.op.value⟩ else Yt F i:=by simp[Yt]
def Yh (vs:List (ByteArray × Atr)):List Atr:=(vs.map (·.2)).filter fun a=>decide (a.value≠⟨#[]⟩)
theorem Ut (a b:List (ByteArray × Atr)):Yh (a++b)=Yh a++Yh b:=by simp[Yh]
theorem QB {a b:List (ByteArray × Atr)} (h:a.Perm b):(Yh a).Perm (Yh b):=(h.map _).filter _
theorem Sw (a:List (ByteArray × Atr)):(Yh a).length≤a.length:=by
 have:=List.length_filter_le (fun a:Atr=>decide (a.value≠⟨#[]⟩)) (a.map (·.2))
 rwa [List.length_map] at this
theorem Tc (i:Int):∀ (F:List Zb) (h:List (ByteArray × Atr)),(F.foldl (fun h x=>if x.lo≤i∧i<x.hi then Zw h x.op.name (⟨x.op.name,x.op.value⟩:Atr) else h) h).length≤h.length+F.length
 | [],h=>by simp
 | x :: F,h=>by
  rw[List.foldl_cons,List.length_cons]
  refine Nat.le_trans (Tc i F _) ?_
  split
  ·have:=S8 h x.op.name (⟨x.op.name,x.op.value⟩:Atr)
   omega
  ·omega
theorem Z3n (F:List Zb) (i:Int):(Yt F i).length≤F.length:=by
 have:=Tc i F []
 simpa [Yt] using this
theorem RL:Tryz.prog.underlying 186=some (.map 9 73):=by kernel_rfl
theorem T0:XW Tryz.prog 183 28:=⟨fun w=>by kernel_rfl,fun w=>by kernel_rfl⟩
def Z3F (w:World) (B it mv:Nat) (vs:List (ByteArray × Atr)) (k:Nat) (v:Value) (wr:World):Prop :=
 ∃ left dn cur,(dn++left).Perm vs∧k=left.length∧ZL Value.string Atr.val wr it mv vs left cur∧Own Atr.cells 2 73 B wr v (Yh dn)∧Below w.heap.size w wr∧B≤wr.heap.size
theorem Z3f (v:Value) (F:List Zb) (i:Int) (w:World) (hF:Z5 Zb.cells 28 w v F) (hn:F.length≤1000) :
  Calls Tryz.prog 69 #[v,.int .i64 i] w
   fun e w'=>∃ u l',e=.returned u∧Own Atr.cells 2 73 w.heap.size w' u l'∧l'.Perm (Yh (Yt F i))∧l'.Pairwise (fun a b=>ltOf (fun x y:Atr=>Yv x.name y.name) b a=false)∧Below w.heap.size w w':=by
 obtain ⟨va,vc,rfl,hcap,hmax,hcs⟩:=id hF
 unfold maxLen at hmax
 have hmm:=@run_makeMap Tryz.prog
 have HC:=Lib.hid hcs
 clear hcs
 have m0:Z6 Value.string Atr.val (w.alloc (.map #[] 0)) w.heap.size []:=Z6.made w
 have B0:Below w.heap.size w (w.alloc (.map #[] 0)):=(Below.refl _ _).alloc (Nat.le_refl _) _
 have z0:w.heap.size<(w.alloc (.map #[] 0)).heap.size:=by simp
 go_enter Tryz.func69,Tryz.ntmps69
 go_wp2_with fail
 go_loopg [14] F.length (fun g iv wr=>∃ k:Nat,g=F.length - k∧k≤F.length∧iv=.int .i64 k∧Z6 Value.string Atr.val wr w.heap.size (Yt (F.take k) i)∧Below w.heap.size w wr)
 case atStart=>exact ⟨0,by omega,by omega,rfl,by simpa [Yt] using m0,B0⟩
 case round =>
  clear m0 B0 z0
  obtain ⟨k,hg,hk,rfl,hM,hB⟩:=hrel
  have hMl:=hM.lt
  by_cases hkl:k<F.length
  ·obtain ⟨x,hx⟩:∃ x,F[k]?=some x:=⟨_,List.getElem?_eq_getElem hkl⟩
   have hne:F≠[]:=by intro e;rw[e] at hx;simp at hx
   obtain ⟨b,o,rfl,hcc⟩:=HC.out hne
   have hb0:∀ j u,(Zb.cells x)[j]?=some u→wr.cell? ⟨b,o+k*28+j,none⟩=some u:=fun j u h=>by
    have h1:=hcc k x hx j u h
    exact (World.cell?_of_block (w:=w) (hB.block b (Zj h1))).trans h1
   have HLD:=Jh (V9 (P:=Tryz.prog) T0 (Zb.len x) hb0)
   have hkk:(k:Int)<(F.length:Int):=by omega
   have q18:(wr.alloc (.cells (Zb.cells x).toArray 183)).cell? ⟨wr.heap.size,18,none⟩=some (.string x.op.name):=ZG 18 _ rfl
   have q19:(wr.alloc (.cells (Zb.cells x).toArray 183)).cell? ⟨wr.heap.size,19,none⟩=some (.string x.op.value):=ZG 19 _ rfl
   have q26:(wr.alloc (.cells (Zb.cells x).toArray 183)).cell? ⟨wr.heap.size,26,none⟩=some (.int .i64 x.lo):=ZG 26 _ rfl
   have q27:(wr.alloc (.cells (Zb.cells x).toArray 183)).cell? ⟨wr.heap.size,27,none⟩=some (.int .i64 x.hi):=ZG 27 _ rfl
   have hupd:∀ W,Z6 Value.string Atr.val W w.heap.size (Yt (F.take k) i)→(Instr.mapUpdate 186 (.map (some w.heap.size)) (.string x.op.name) (.agg #[.string x.op.name,.string x.op.value])).run Tryz.prog W=.ok () (Zp W w.heap.size (Zr (Yt (F.take k) i) x.op.name) (.string x.op.name) (.agg #[.string x.op.name,.string x.op.value])):=fun W hW=>hW.update Z10 RL x.op.name _
   have hsn:Yt (F.take (k+1)) i=if x.lo≤i∧i<x.hi then Zw (Yt (F.take k) i) x.op.name ⟨x.op.name,x.op.value⟩ else Yt (F.take k) i:=by
    rw[List.take_add_one,hx,Option.toList_some,Z1E]
   have HSN:=Lib.hid hsn
   have HP:=Jh ((hM.alloc (.cells (Zb.cells x).toArray 183)).put x.op.name ⟨x.op.name,x.op.value⟩)
   have HB:=Jh (hB.alloc hB.size (.cells (Zb.cells x).toArray 183))
   have HG:=Lib.hid hg
   clear hcc hb0 hsn hB hg
   by_cases h1:x.lo≤i
   ·by_cases h2:i<x.hi
    ·go_wp2_with (first
      | refine XK (o:=⟨some 17,_,_,_,_,_⟩) rfl rfl rfl HLD.out ?_
      | refine Wt (T:=183) rfl rfl rfl rfl (XL T0 rfl (Zb.len x) (Zb.one x)) ?_)
     go_roundg (F.length - (k+1))
     case measure=>rw[HG.out];omega
     case rel=>exact ⟨k+1,rfl,by omega,by simp,by rw[HSN.out,if_pos ⟨h1,h2⟩];exact HP.out,Ext.new HB.out (Xr _ _ _ _ _) (fun j hj _ e=>by omega) (by simp;omega)⟩
    ·go_wp2_with (first
      | refine XK (o:=⟨some 17,_,_,_,_,_⟩) rfl rfl rfl HLD.out ?_
      | refine Wt (T:=183) rfl rfl rfl rfl (XL T0 rfl (Zb.len x) (Zb.one x)) ?_)
     go_roundg (F.length - (k+1))
     case measure=>rw[HG.out];omega
     case rel=>exact ⟨k+1,rfl,by omega,by simp,by rw[HSN.out,if_neg (fun h=>by obtain ⟨_,_⟩:=h;omega)];exact hM.alloc _,HB.out⟩
   ·go_wp2_with (first
      | refine XK (o:=⟨some 17,_,_,_,_,_⟩) rfl rfl rfl HLD.out ?_
      | refine Wt (T:=183) rfl rfl rfl rfl (XL T0 rfl (Zb.len x) (Zb.one x)) ?_)
    go_roundg (F.length - (k+1))
    case measure=>rw[HG.out];omega
    case rel=>exact ⟨k+1,rfl,by omega,by simp,by rw[HSN.out,if_neg (fun h=>by obtain ⟨_,_⟩:=h;omega)];exact hM.alloc _,HB.out⟩
  ·obtain rfl:k=F.length:=by omega
   rw[List.take_length] at hM
   obtain ⟨w1,hrange,hit,hb1,hz1⟩:=hM.range (P:=Tryz.prog) RL
   have HB:=Jh (hB.trans (hb1.mono (hB.size)))
   obtain ⟨it,hit0⟩:=Je (wr.heap.size)
   rw[hit0] at hit hrange hz1 hMl
   have HZ:=Lib.hid hz1
   clear hM hB hb1 hz1
   have hml:=Z3n F i
   obtain ⟨vs,hvs⟩:=Je (Yt F i)
   rw[hvs] at hit hml
   have HVS:=Lib.hid hvs
   clear hvs
   obtain ⟨i0,hi,hz0,hz1',hz2⟩:=info_parts W5
   clear hF HC hcap hmax hmm
   go_wp2_with fail
   go_loopg [8] vs.length (fun g v wx=>Z3F w (it+1) it w.heap.size vs g v wx)
   case atStart=>exact ⟨vs,[],none,List.Perm.refl _,rfl,hit,Own.nil,HB.out,by rw[HZ.out];exact Nat.le_refl _⟩
   case round =>
    clear hit hrange
    obtain ⟨left,dn,cur,hperm,hk2,hiter,hown,hB,hBs⟩:=hrel
    rcases hiter.next (P:=Tryz.prog) (by omega) with ⟨hnil,hnx⟩|⟨t,p,w2,hip,hnx,hiter2,hx2,hs2⟩
    ·have HN:=Lib.hid hnil
     clear hk2 hnil
     go_wp2_with fail
     refine (Ro hown (by have:=Sw dn;have:=hperm.length_eq;simp at this;omega)).mono ?_
     rintro e w3 ⟨rfl,l',hl1,hl2,hl3,hx3⟩
     have hb3:Below w.heap.size w w3:=Ext.new hB hx3 (fun j hj _ e=>by have:=(hown.blk j e).1;omega) (by omega)
     have hp3:l'.Perm (Yh vs):=by
      rw[HN.out,List.append_nil] at hperm
      exact hl1.trans (QB hperm)
     have hl4:=hl3.mono (b':=w.heap.size) (by omega)
     have HL2:=Lib.hid hl2
     have HP3:=Lib.hid hp3
     have HB3:=Lib.hid hb3
     have HL4:=Lib.hid hl4
     clear hp3 hb3 hl1 hl2 hl3 hl4 hx3 hown hperm hnx hiter
     go_wp2_with fail
     go_ret
     exact ⟨_,l',rfl,HL4.out,by rw[HVS.out];exact HP3.out,HL2.out,HB3.out⟩
    ·obtain ⟨pn,⟨xn,xval⟩⟩:=p
     simp only[Atr.val] at hnx
     have hen:∀ W,ZL Value.string Atr.val W it w.heap.size vs (left.eraseIdx t) (some (pn,⟨xn,xval⟩))→(Instr.entry (.pointer (some ⟨it,0,none⟩))).run Tryz.prog W=.ok (.tuple #[.string pn,.agg #[.string xn,.string xval]]) W:=fun W hW=>hW.entry
     have HK:=Lib.hid hk2
     have HS:=Lib.hid hs2
     have HI:=Lib.hid hip
     clear hk2 hs2 hip
     have hown2:=hown.ext hx2 (fun b hb e=>by have:=(hown.blk b hb).1;omega)
     have hB2:Below w.heap.size w w2:=Ext.new hB hx2 (fun j hj _ e=>by omega) (by omega)
     have hs2:it+1≤w2.heap.size:=by rw[HS.out];exact hBs
     have hlen:=Sw dn
     have hlen2:=hperm.length_eq
     rw[List.length_append] at hlen2
     have hlen3:(Yh dn).length≤1099511627776:=by omega
     have hper2:((dn++[((pn,⟨xn,xval⟩):ByteArray × Atr)])++left.eraseIdx t).Perm vs:=by
      rw[List.append_assoc]
      exact (List.Perm.append_left dn (WO HI.out).symm).trans hperm
     have hk3:(left.eraseIdx t).length<left.length:=by
      rw[List.length_eraseIdx]
      have:=(List.getElem?_eq_some_iff.1 HI.out).1
      rw[if_pos this];omega
     rw[←HK.out] at hk3
     have HK3:=Lib.hid hk3
     have HP:=Lib.hid hper2
     clear hlen hlen2 hperm hper2 hown hB hiter hx2 hBs hk3
     by_cases hv:xval=⟨#[]⟩
     ·have ha:Yh (dn++[((pn,⟨xn,xval⟩):ByteArray × Atr)])=Yh dn:=by rw[Ut];simp[Yh,hv]
      have HA:=Lib.hid ha
      clear ha
      subst hv
      go_wp2_with fail
      go_roundg (left.eraseIdx t).length
      case measure=>exact HK3.out
      case rel=>exact ⟨left.eraseIdx t,_,_,HP.out,rfl,hiter2.alloc _,by rw[HA.out];exact hown2.alloc _,hB2.alloc (by omega) _,by simp;omega⟩
     ·have ha:Yh (dn++[((pn,⟨xn,xval⟩):ByteArray × Atr)])=Yh dn++[⟨xn,xval⟩]:=by rw[Ut];simp[Yh,hv]
      have HA:=Lib.hid ha
      have hv1:(xval.toList == [])=false:=by
       cases h:(xval.toList == []) with
       | false=>rfl
       | true=>exact absurd ((ZO xval ⟨#[]⟩).1 (by simpa using eq_of_beq h)) hv
      have hv2:(xval == ⟨#[]⟩)=false:=by rw[Xe];simp[hv]
      clear ha
      go_wp2_with (at_builtin;refine Zq rfl _ _ _ rfl i0 (.agg #[.string ⟨#[]⟩,.string ⟨#[]⟩]) 32 Tryz.underlying24 hi hz0 hz1' hz2 rfl (by omega) (fun _=>rfl) (fun x u hu=>by simp[Atr.cells] at hu;rcases hu with rfl|rfl <;> rfl) rfl ((hown2.alloc _).alloc _) ⟨xn,xval⟩ (w2.heap.size+1) 1 rfl ?_ (by unfold maxLen;omega) (by omega) (by simp;omega) ?_)
      ·intro j u hj
       have hju:(j=0∧u=.string xn)∨(j=1∧u=.string xval):=by
        match j,hj with
        | 0,hj=>simp[Atr.cells] at hj;exact .inl ⟨rfl,hj.symm⟩
        | 1,hj=>simp[Atr.cells] at hj;exact .inr ⟨rfl,hj.symm⟩
        | n+2,hj=>simp[Atr.cells] at hj
       rcases hju with ⟨rfl,rfl⟩|⟨rfl,rfl⟩ <;> go_simp
      ·intro v' w3 hown3 hx3
       go_wp2_with fail
       go_roundg (left.eraseIdx t).length
       case measure=>exact HK3.out
       case rel =>
        have hne:∀ b,u8.ownBlock=some b→it+1≤b:=fun b hb=>(hown2.blk b hb).1
        refine ⟨left.eraseIdx t,_,_,HP.out,rfl,((hiter2.alloc _).alloc _).ext hx3 (fun e=>by have:=hne _ e;omega) (fun e=>by have:=hne _ e;omega),by rw[HA.out];exact hown3,?_,?_⟩
        ·exact Ext.new ((hB2.alloc (by omega) _).alloc (by simp;omega) _) hx3 (fun b hb _ e=>by have:=hne _ e;omega) (by simp;omega)
        ·have:=hx3.size;simp at this;omega
structure Sl where
 a:Option Addr
 n:Nat
 cap:Nat
def Sl.val (s:Sl):Value:=.slice s.a s.n s.cap
theorem Own.sl {α:Type} {ea:α→List Value} {k:Nat} {e:TypeId} {base:Nat} {w:World} {v:Value} {l:List α} (h:Own ea k e base w v l):∃ s:Sl,v=.slice s.a s.n s.cap:=by
 rcases h.eq_slice with ⟨rfl,_⟩|⟨g,c,rfl,_,_⟩
 ·exact ⟨⟨none,0,0⟩,rfl⟩
 ·exact ⟨⟨_,_,_⟩,rfl⟩
theorem Own.apart {α β:Type} {ea:α→List Value} {eb:β→List Value} {k k':Nat} {e e':TypeId} {base base':Nat} {w:World} {v u:Value} {l:List α} {l':List β} (h:Own ea k e base w v l) (h':Own eb k' e' base' w u l') (hne:e≠e'):∀ b,v.ownBlock=some b→¬ u.ownBlock=some b:=by
 intro b hb hb'
 obtain ⟨c1,h1⟩:=h.tag hb
 obtain ⟨c2,h2⟩:=h'.tag hb'
 rw[h1] at h2
 simp only[Option.some.injEq,Obj.cells.injEq] at h2
 exact hne h2.2.1
def Z3x (F:List Zb) (i:Int) (al:List Atr):Prop:=al.Perm (Yh (Yt F i))∧al.Pairwise (fun a b=>ltOf (fun x y:Atr=>Yv x.name y.name) b a=false)
def Cov (l:List El) (o:OpD) (i:Int):Prop:=∃ p q,ZP l o.fr=some p∧ZP l o.tr=some q∧(p:Int)+(if o.fa=true then 1 else 0)≤i∧i<(q:Int)+(if o.ta=true then 1 else 0)
def Win (l:List El) (ms:List OpD) (i:Int) (n:ByteArray) (k:Nat) (o:OpD):Prop :=
 ms[k]?=some o∧Cov l o i∧o.name=n∧∀ j o',ms[j]?=some o'→Cov l o' i→o'.name=n→ZK o'.id o.id∨(o'.id=o.id∧k≤j)
theorem Win.unique {l:List El} {ms:List OpD} {i:Int} {n:ByteArray} {k k':Nat} {o o':OpD} (h:Win l ms i n k o) (h':Win l ms i n k' o'):k=k'∧o=o':=by
 obtain ⟨a1,a2,a3,a4⟩:=h
 obtain ⟨b1,b2,b3,b4⟩:=h'
 have hk:k=k':=by
  rcases a4 k' o' b1 b2 b3 with c|⟨c1,c2⟩ <;> rcases b4 k o a1 a2 a3 with d|⟨d1,d2⟩
  ·exact absurd (ZC c d) (Zm _)
  ·rw[d1] at c;exact absurd c (Zm _)
  ·rw[c1] at d;exact absurd d (Zm _)
  ·omega
 subst hk
 rw[a1] at b1
 exact ⟨rfl,Option.some.inj b1⟩
theorem UN {h:List (St × Int)} {o:OpD} {m:Zb} (hm:Yj h o=some m):m.op=o:=by
 unfold Yj at hm
 split at hm
 ·cases hm;rfl
 ·cases hm
theorem Z0E {l:List El} {o:OpD} {m:Zb} (hm:Yj (Zy (Ze l)) o=some m) (i:Int):(m.lo≤i∧i<m.hi)↔Cov l o i:=by
 unfold Yj at hm
 split at hm
 ·rename_i hc
  cases hm
  simp only[VF,Option.isSome_map,Bool.and_eq_true] at hc
  obtain ⟨p,hp⟩:=Option.isSome_iff_exists.1 hc.1
  obtain ⟨q,hq⟩:=Option.isSome_iff_exists.1 hc.2
  simp only[atI,VF,hp,hq,Option.map_some,Option.getD_some]
  constructor
  ·intro h
   exact ⟨p,q,hp,hq,h.1,h.2⟩
  ·rintro ⟨p',q',hp',hq',h1,h2⟩
   rw[hp] at hp'
   rw[hq] at hq'
   cases hp'
   cases hq'
   exact ⟨h1,h2⟩
 ·cases hm
theorem TR {l:List El} {o:OpD} {i:Int} (h:Cov l o i):∃ m,Yj (Zy (Ze l)) o=some m:=by
 obtain ⟨p,q,hp,hq,_⟩:=h
 exact ⟨_,if_pos (by simp[VF,hp,hq])⟩
def Si (h:List (St × Int)) (pre:List (Nat × OpD)):List (Zb × Nat):=pre.filterMap fun p=>(Yj h p.2).map fun m=>(m,p.1)
theorem Z2K (h:List (St × Int)) (pre:List (Nat × OpD)):(Si h pre).map (·.1)=Yw h pre:=by
 unfold Si Yw
 rw[List.map_filterMap]
 congr 1
 funext p
 cases Yj h p.2 <;> rfl
theorem Ti {α:Type} {l:List α} {k:Nat} {x:α}:(k,x)∈Ze l↔l[k]?=some x:=by
 unfold Ze
 rw[List.mem_reverse,List.mem_map]
 constructor
 ·rintro ⟨⟨y,j⟩,h,e⟩
  cases e
  exact List.mem_zipIdx_iff_getElem?.1 h
 ·intro h
  exact ⟨(x,k),List.mem_zipIdx_iff_getElem?.2 h,rfl⟩
theorem Z0L {α:Type} (l:List α):(Ze l).Pairwise (fun a b=>b.1<a.1):=by
 unfold Ze
 rw[List.pairwise_reverse,List.pairwise_map]
 rw[List.pairwise_iff_getElem]
 intro i j hi hj hij
 simp only[List.getElem_zipIdx]
 omega
theorem Z2A {h:List (St × Int)} {ms:List OpD} {m:Zb} {k:Nat}:(m,k)∈Si h (Ze ms)↔∃ o,ms[k]?=some o∧Yj h o=some m:=by
 unfold Si
 rw[List.mem_filterMap]
 constructor
 ·rintro ⟨⟨j,o⟩,h1,h2⟩
  cases hm:Yj h o with
  | none=>simp[hm] at h2
  | some m' =>
   simp[hm] at h2
   obtain ⟨rfl,rfl⟩:=h2
   exact ⟨o,Ti.1 h1,hm⟩
 ·rintro ⟨o,h1,h2⟩
  exact ⟨(k,o),Ti.2 h1,by simp[h2]⟩
theorem Z2r (h:List (St × Int)) (ms:List OpD):(Si h (Ze ms)).Pairwise (fun a b=>b.2<a.2):=by
 unfold Si
 rw[List.pairwise_filterMap]
 refine (Z0L ms).imp ?_
 intro a b hab x hx y hy
 cases ha:Yj h a.2 with
 | none=>simp[ha] at hx
 | some m =>
  cases hb:Yj h b.2 with
  | none=>simp[hb] at hy
  | some m' =>
   simp[ha] at hx
   simp[hb] at hy
   subst hx
   subst hy
   exact hab
theorem XS.carry {α κ:Type} {klt:κ→κ→Prop} {key:α→κ} {L:List (α × Nat)} {l':List α} (h:XS klt key (L.map (·.1)) l') (hd:L.Pairwise (fun a b=>b.2<a.2)) :
  ∃ G:List (α × Nat),G.Perm L∧G.Pairwise (fun a b=>klt (key a.1) (key b.1)∨(key a.1=key b.1∧b.2<a.2))∧l'=G.map (·.1):=by
 obtain ⟨G,h1,h2,rfl⟩:=h
 have hz:((L.map (·.1)).zipIdx.map fun p=>(p.1,(L[p.2]?.map (·.2)).getD 0))=L:=by
  refine List.ext_getElem (by simp) fun i hi1 hi2=>?_
  simp[List.getElem?_eq_getElem hi2]
 refine ⟨G.map fun p=>(p.1,(L[p.2]?.map (·.2)).getD 0),?_,?_,by rw[List.map_map];rfl⟩
 ·rw[←hz]
  simpa [hz] using h1.map fun p=>(p.1,(L[p.2]?.map (·.2)).getD 0)
 ·rw[List.pairwise_map]
  refine h2.imp_of_mem fun {a b} ha hb hab=>?_
  rcases hab with hab|⟨e,hab⟩
  ·exact .inl hab
  ·refine .inr ⟨e,?_⟩
   have ha':=List.mem_zipIdx_iff_getElem?.1 (h1.mem_iff.1 ha)
   have hb':=List.mem_zipIdx_iff_getElem?.1 (h1.mem_iff.1 hb)
   rw[List.getElem?_map] at ha' hb'
   obtain ⟨x,hx,_⟩:=Option.map_eq_some_iff.1 ha'
   obtain ⟨y,hy,_⟩:=Option.map_eq_some_iff.1 hb'
   obtain ⟨hi,hx'⟩:=List.getElem?_eq_some_iff.1 hx
   obtain ⟨hj,hy'⟩:=List.getElem?_eq_some_iff.1 hy
   have:=List.pairwise_iff_getElem.1 hd a.2 b.2 hi hj hab
   simp only[hx,hy,Option.map_some,Option.getD_some]
   rw[←hx',←hy']
   exact this
theorem TF {α:Type} (p:α→Bool):∀ L:List α,(∀ y∈L,p y=false)∨∃ A x B,L=A++x :: B∧p x=true∧∀ y∈B,p y=false
 | []=>.inl (by simp)
 | x :: L=>by
  rcases TF p L with h|⟨A,y,B,rfl,h1,h2⟩
  ·cases hx:p x with
   | true=>exact .inr ⟨[],x,L,rfl,hx,h⟩
   | false=>exact .inl (by simp[hx];exact h)
  ·exact .inr ⟨x :: A,y,B,rfl,h1,h2⟩
def Un (i:Int) (n:ByteArray) (x:Zb):Bool:=decide ((x.lo≤i∧i<x.hi)∧x.op.name=n)
theorem UI (i:Int) (n:ByteArray):∀ (B:List Zb) (h:List (ByteArray × Atr)),(∀ y∈B,Un i n y=false) →
  Z3 (B.foldl (fun h x=>if x.lo≤i∧i<x.hi then Zw h x.op.name (⟨x.op.name,x.op.value⟩:Atr) else h) h) n=Z3 h n
 | [],h,_=>rfl
 | x :: B,h,hy=>by
  rw[List.foldl_cons,UI i n B _ (fun y hy'=>hy y (List.mem_cons_of_mem _ hy'))]
  have hx:=hy x (List.mem_cons_self ..)
  simp only[Un,decide_eq_false_iff_not] at hx
  split
  ·rename_i hc
   exact ZF _ _ (fun e=>hx ⟨hc,e⟩)
  ·rfl
theorem Z1U {i:Int} {n:ByteArray} {F:List Zb} (h:∀ y∈F,Un i n y=false):Z3 (Yt F i) n=none:=by
 unfold Yt
 rw[UI i n F [] h]
 rfl
theorem Z1o {i:Int} {n:ByteArray} {A B:List Zb} {x:Zb} (hx:Un i n x=true) (h:∀ y∈B,Un i n y=false):Z3 (Yt (A++x :: B) i) n=some ⟨x.op.name,x.op.value⟩:=by
 unfold Yt
 rw[List.foldl_append,List.foldl_cons,UI i n B _ h]
 simp only[Un,decide_eq_true_eq] at hx
 rw[if_pos hx.1,←hx.2,ZW]
theorem Z2W {l:List El} {ms:List OpD} {F:List Zb} (hF:XS ZK Sj (Yw (Zy (Ze l)) (Ze ms)) F) (i:Int) (n:ByteArray) (a:Atr) :
  Z3 (Yt F i) n=some a↔∃ k o,Win l ms i n k o∧a=⟨o.name,o.value⟩:=by
 rw[←Z2K] at hF
 obtain ⟨G,h1,h2,rfl⟩:=hF.carry (Z2r _ ms)
 have hmem:∀ m k,(m,k)∈G↔∃ o,ms[k]?=some o∧Yj (Zy (Ze l)) o=some m:=fun m k=>h1.mem_iff.trans Z2A
 have hhit:∀ {m:Zb} {o:OpD},Yj (Zy (Ze l)) o=some m→(Un i n m=true↔Cov l o i∧o.name=n):=fun {m o} hm=>by
  unfold Un
  rw[decide_eq_true_eq,Z0E hm,UN hm]
 rcases TF (fun p:Zb × Nat=>Un i n p.1) G with h|⟨A,⟨x,k⟩,B,rfl,hx,hB⟩
 ·rw[Z1U (fun y hy=>by obtain ⟨p,hp,rfl⟩:=List.mem_map.1 hy;exact h p hp)]
  constructor
  ·intro e;cases e
  ·rintro ⟨k,o,⟨w1,w2,w3,_⟩,_⟩
   obtain ⟨m,hm⟩:=TR w2
   have:=h (m,k) ((hmem m k).2 ⟨o,w1,hm⟩)
   rw[(hhit hm).2 ⟨w2,w3⟩] at this
   cases this
 ·rw[List.map_append,List.map_cons,Z1o hx (fun y hy=>by obtain ⟨p,hp,rfl⟩:=List.mem_map.1 hy;exact hB p hp)]
  obtain ⟨o,ho,hm⟩:=(hmem x k).1 (by simp)
  have hop:=UN hm
  have hxc:=(hhit hm).1 hx
  have hw:Win l ms i n k o:=by
   refine ⟨ho,hxc.1,hxc.2,fun j o' hj hc hn=>?_⟩
   obtain ⟨m',hm'⟩:=TR hc
   have hj':=(hmem m' j).2 ⟨o',hj,hm'⟩
   rw[List.mem_append,List.mem_cons] at hj'
   rcases hj' with hj'|hj'|hj'
   ·have:=(List.pairwise_append.1 h2).2.2 _ hj' _ (List.mem_cons_self ..)
    simp only[Sj,hop,UN hm'] at this
    rcases this with t|⟨t1,t2⟩
    ·exact .inl t
    ·exact .inr ⟨t1,by omega⟩
   ·cases hj'
    rw[ho] at hj
    cases hj
    exact .inr ⟨rfl,Nat.le_refl _⟩
   ·have:=hB _ hj'
    rw[(hhit hm').2 ⟨hc,hn⟩] at this
    cases this
  rw[hop]
  constructor
  ·intro e
   exact ⟨k,o,hw,(Option.some.inj e).symm⟩
  ·rintro ⟨k',o',hw',rfl⟩
   obtain ⟨_,rfl⟩:=hw.unique hw'
   rfl
def T3 (al:List Atr):Prop:=al.Pairwise fun a b=>a.name.toList<b.name.toList
theorem T3.unique {a b:List Atr} (ha:T3 a) (hb:T3 b) (h:∀ x,x∈a↔x∈b):a=b :=
 Xz (R:=fun a b:Atr=>a.name.toList<b.name.toList) (fun a=>List.lt_irrefl _) (fun _ _ _ h k=>List.lt_trans h k) ha hb h
def Ul (l:List El) (ms:List OpD) (i:Int) (al:List Atr):Prop:=T3 al∧∀ a,a∈al↔a.value≠⟨#[]⟩∧∃ k o,Win l ms i a.name k o∧a.value=o.value
theorem Ul.unique {l:List El} {ms:List OpD} {i:Int} {a b:List Atr} (ha:Ul l ms i a) (hb:Ul l ms i b):a=b:=ha.1.unique hb.1 fun x=>(ha.2 x).trans (hb.2 x).symm
theorem QR {l:List El} {ms:List OpD} {F:List Zb} (hF:XS ZK Sj (Yw (Zy (Ze l)) (Ze ms)) F) {i:Int} {al:List Atr} (h:Z3x F i al) (hk:(Yt F i).map (·.1) |>.Nodup):Ul l ms i al:=by
 obtain ⟨h1,h2⟩:=h
 have hwin:=Z2W hF i
 have hnm:∀ p∈Yt F i,p.2.name=p.1:=fun p hp=>by
  obtain ⟨k,o,hw,e⟩:=(hwin p.1 p.2).1 (VO hk hp)
  rw[e]
  exact hw.2.2.1
 have hm:∀ a,a∈al↔a.value≠⟨#[]⟩∧∃ k o,Win l ms i a.name k o∧a.value=o.value:=fun a=>by
  rw[h1.mem_iff]
  unfold Yh
  rw[List.mem_filter,List.mem_map,decide_eq_true_eq]
  constructor
  ·rintro ⟨⟨p,hp,rfl⟩,hv⟩
   refine ⟨hv,?_⟩
   obtain ⟨k,o,hw,e⟩:=(hwin p.1 p.2).1 (VO hk hp)
   rw[hnm p hp]
   exact ⟨k,o,hw,by rw[e]⟩
  ·rintro ⟨hv,k,o,hw,e⟩
   refine ⟨⟨(a.name,a),Tu ((hwin a.name a).2 ⟨k,o,hw,?_⟩),rfl⟩,hv⟩
   obtain ⟨an,av⟩:=a
   have h3:=hw.2.2.1
   simp only at e h3 ⊢
   rw[e,h3]
 refine ⟨?_,hm⟩
 have hnd:(al.map (·.name)).Nodup:=by
  rw[(h1.map (·.name)).nodup_iff]
  unfold Yh
  have hs:(((Yt F i).map (·.2)).filter (fun a=>decide (a.value≠⟨#[]⟩))).map (·.name) |>.Sublist (((Yt F i).map (·.2)).map (·.name)):=(List.filter_sublist ..).map _
  refine hs.nodup ?_
  rw[List.map_map,show (Yt F i).map ((·.name) ∘ (·.2))=(Yt F i).map (·.1) from List.map_congr_left hnm]
  exact hk
 have hp:al.Pairwise (fun a b=>a.name≠b.name):=List.pairwise_map.1 hnd
 refine (h2.and hp).imp fun {a b} hab=>?_
 obtain ⟨x,y⟩:=hab
 simp only[ltOf,ltB,decide_eq_false_iff_not] at x
 exact Classical.byContradiction fun hn=>y ((ZO _ _).1 (WE _ _ hn x))
end Go.Proofs.YtlgipkemoldckaaGreatDoor
namespace Go.Proofs.YtlgipkemoldckaaGreatDoor
open Go.RowKit
def Xn (l:List El) (k:St):Int:=match ZP l k with|some i=>(i:Int)|none=>-1
theorem Rl {l:List El} {k:Nat} {id:St} {x:El} (hx:l[k]?=some x):ZP (l.drop k) id=if x.id=id then some 0 else (ZP (l.drop (k+1)) id).map (·+1):=by
 obtain ⟨h,rfl⟩:=List.getElem?_eq_some_iff.1 hx
 rw[List.drop_eq_getElem_cons h]
 unfold ZP
 rw[List.findIdx?_cons]
 by_cases e:l[k].id=id <;> simp[e]
theorem ST (va:Option Addr) (ca:Nat) (l:List El) (sid:St) (w:World) (hl:Z5 El.cells 4 w (.slice va l.length ca) l) (hln:l.length≤1000) :
  Calls Tryz.prog 35 #[.slice va l.length ca,.agg #[.int .i64 sid.n,.int .i64 sid.r]] w fun e w'=>e=.returned (.int .i64 (Xn l sid))∧Below w.heap.size w w':=by
 obtain ⟨_,_,e0,hcap,hmax,hcs⟩:=id hl
 cases e0
 have HC:=Lib.hid hcs
 have d0:(w.alloc (.cells #[.int .i64 sid.n,.int .i64 sid.r] 23)).cell? ⟨w.heap.size,0,none⟩=some (.int .i64 sid.n):=by go_simp
 have d1:(w.alloc (.cells #[.int .i64 sid.n,.int .i64 sid.r] 23)).cell? ⟨w.heap.size,1,none⟩=some (.int .i64 sid.r):=by go_simp
 have hB0:Below w.heap.size w (w.alloc (.cells #[.int .i64 sid.n,.int .i64 sid.r] 23)):=(Below.refl _ _).alloc (Nat.le_refl _) _
 clear hcs hl
 go_enter Tryz.func35,Tryz.ntmps35
 go_wp2_with fail
 go_loopg [5] l.length (fun g iv wr=>∃ k:Nat,g=l.length - k∧k≤l.length∧iv=.int .i64 k∧ZP l sid=(ZP (l.drop k) sid).map (·+k)∧wr.cell? ⟨w.heap.size,0,none⟩=some (.int .i64 sid.n)∧wr.cell? ⟨w.heap.size,1,none⟩=some (.int .i64 sid.r)∧Below w.heap.size w wr)
 case atStart=>exact ⟨0,by omega,by omega,rfl,by simp,d0,d1,hB0⟩
 case round =>
  clear d0 d1 hB0
  obtain ⟨k,hg,hk,rfl,hP,d0,d1,hB⟩:=hrel
  have HB:=Lib.hid hB
  have HG:=Lib.hid hg
  have HP:=Lib.hid hP
  by_cases hkl:k<l.length
  ·obtain ⟨x,hx⟩:∃ x,l[k]?=some x:=⟨_,List.getElem?_eq_getElem hkl⟩
   obtain ⟨b,o,rfl,hcc⟩:=HC.out (by intro e;rw[e] at hx;simp at hx)
   have x0:wr.cell? ⟨b,o+k*4,none⟩=some (.int .i64 x.id.n):=Z0 hB (hcc k x hx 0 _ rfl)
   have x1:wr.cell? ⟨b,o+k*4+1,none⟩=some (.int .i64 x.id.r):=Z0 hB (hcc k x hx 1 _ rfl)
   have hkk:(k:Int)<(l.length:Int):=by omega
   have HS:=Jh (Rl (id:=sid) hx)
   clear hcc hB hg hP hx
   by_cases h1:x.id.n=sid.n
   ·by_cases h2:x.id.r=sid.r
    ·have HE:Hid (x.id=sid):=Jh (by cases h3:x.id;cases h4:sid;simp_all)
     rw[h1] at x0
     rw[h2] at x1
     go_wp2_with fail
     go_region_held3 (fun W=>W.cell? ⟨b,o+k*4,none⟩=some (.int .i64 sid.n)∧W.cell? ⟨b,o+k*4+1,none⟩=some (.int .i64 sid.r)∧W.cell? ⟨w.heap.size,0,none⟩=some (.int .i64 sid.n)∧W.cell? ⟨w.heap.size,1,none⟩=some (.int .i64 sid.r)) (exact ⟨x0,x1,d0,d1⟩) (fail)
     go_wp2_with fail
     go_ret
     refine ⟨?_,HB.out.drew⟩
     rw[Xn,HP.out,HS.out,if_pos HE.out]
     simp
    ·have HE:Hid (¬ x.id=sid):=Jh (fun e=>h2 (by rw[e]))
     go_wp2_with fail
     go_region_held3 (fun W=>W.cell? ⟨b,o+k*4,none⟩=some (.int .i64 x.id.n)∧W.cell? ⟨b,o+k*4+1,none⟩=some (.int .i64 x.id.r)∧W.cell? ⟨w.heap.size,0,none⟩=some (.int .i64 sid.n)∧W.cell? ⟨w.heap.size,1,none⟩=some (.int .i64 sid.r)) (exact ⟨x0,x1,d0,d1⟩) (fail)
     go_wp2_with fail
     go_roundg (l.length - (k+1))
     case measure=>rw[HG.out];omega
     case rel=>exact ⟨k+1,rfl,by omega,by simp,by rw[HP.out,HS.out,if_neg HE.out,Option.map_map];congr 1;funext j;simp only[Function.comp_apply];omega,d0,d1,HB.out.drew⟩
   ·have HE:Hid (¬ x.id=sid):=Jh (fun e=>h1 (by rw[e]))
    go_wp2_with fail
    go_region_held3 (fun W=>W.cell? ⟨b,o+k*4,none⟩=some (.int .i64 x.id.n)∧W.cell? ⟨b,o+k*4+1,none⟩=some (.int .i64 x.id.r)∧W.cell? ⟨w.heap.size,0,none⟩=some (.int .i64 sid.n)∧W.cell? ⟨w.heap.size,1,none⟩=some (.int .i64 sid.r)) (exact ⟨x0,x1,d0,d1⟩) (fail)
    go_wp2_with fail
    go_roundg (l.length - (k+1))
    case measure=>rw[HG.out];omega
    case rel=>exact ⟨k+1,rfl,by omega,by simp,by rw[HP.out,HS.out,if_neg HE.out,Option.map_map];congr 1;funext j;simp only[Function.comp_apply];omega,d0,d1,HB.out.drew⟩
  ·obtain rfl:k=l.length:=by omega
   clear hB hg hP
   go_wp2_with fail
   go_ret
   refine ⟨?_,HB.out⟩
   rw[Xn,HP.out]
   simp[ZP]
theorem QD {l:List El} {k:St} (h:ZP l k=none):Xn l k=-1:=by rw[Xn,h]
theorem Qg {l:List El} {k:St} {i:Nat} (h:ZP l k=some i):Xn l k=(i:Int):=by rw[Xn,h]
def Y7 (l:List El) (a:St) (aft:Bool):Int:=match ZP l a with|some i=>if aft=true then 2*(i:Int)+2 else 2*(i:Int)|none=>-1
theorem TS (va:Option Addr) (ca:Nat) (l:List El) (a:St) (aft:Bool) (w:World) (hl:Z5 El.cells 4 w (.slice va l.length ca) l) (hln:l.length≤1000) :
  Calls Tryz.prog 145 #[.slice va l.length ca,.agg #[.int .i64 a.n,.int .i64 a.r,.bool aft]] w fun e w'=>e=.returned (.int .i64 (Y7 l a aft))∧Below w.heap.size w w':=by
 have hB0:Below w.heap.size w (w.alloc (.cells #[.int .i64 a.n,.int .i64 a.r,.bool aft] 170)):=(Below.refl _ _).alloc (Nat.le_refl _) _
 have hl0:=hl.below hB0
 have d2:(w.alloc (.cells #[.int .i64 a.n,.int .i64 a.r,.bool aft] 170)).cell? ⟨w.heap.size,2,none⟩=some (.bool aft):=by go_simp
 go_enter Tryz.func145,Tryz.ntmps145
 go_wp2_with fail
 refine (ST va ca l a _ hl0 hln).mono ?_
 rintro e w1 ⟨rfl,hb1⟩
 replace d2:=Z0 hb1 d2
 have HB:=Jh (hB0.trans (hb1.mono hB0.size))
 clear hB0 hb1 hl hl0
 cases hp:ZP l a with
 | none =>
  have HR:Hid (Y7 l a aft=-1):=Jh (by rw[Y7,hp])
  rw[QD hp]
  clear hp
  go_wp2_with fail
  go_ret
  exact ⟨by rw[HR.out];rfl,HB.out⟩
 | some i =>
  have hi:=Um hp
  have hi1:(i:Int)≤1000:=by omega
  have hi0:(0:Int)≤(i:Int):=by omega
  have hi2:¬ (i:Int)<0:=by omega
  have HR:Hid (Y7 l a aft=if aft=true then 2*(i:Int)+2 else 2*(i:Int)):=Jh (by rw[Y7,hp])
  rw[Qg hp]
  clear hp hi
  cases aft with
  | true =>
   go_wp2_with fail
   go_ret
   exact ⟨by rw[HR.out];simp,HB.out⟩
  | false =>
   go_wp2_with fail
   go_ret
   exact ⟨by rw[HR.out];simp,HB.out⟩
theorem Z1y {l:List El} (h:∀ (i:Nat) (x:El),l[i]?=some x→Xn l x.id=i):XO l:=by
 unfold XO
 rw[List.pairwise_iff_getElem]
 intro i j hi hj hij e
 have h1:=h i _ (List.getElem?_eq_getElem hi)
 have h2:=h j _ (List.getElem?_eq_getElem hj)
 rw[e,h2] at h1
 omega
theorem Z2h {W:World} {a:Option Addr} {n c:Nat} {l:List El} (h:Z5 El.cells 4 W (.slice a n c) l) {k:Nat} {x:El} (hx:l[k]?=some x):∃ b o,a=some ⟨b,o,none⟩∧W.cell? ⟨b,o+k*4,none⟩=some (.int .i64 x.id.n)∧W.cell? ⟨b,o+k*4+1,none⟩=some (.int .i64 x.id.r) ∧
  W.cell? ⟨b,o+k*4+2,none⟩=some (.int .i64 x.ch)∧W.cell? ⟨b,o+k*4+3,none⟩=some (.bool x.gone):=by
 obtain ⟨a',c',e,_,_,hh⟩:=h
 injection e with e1 _ _
 subst e1
 obtain ⟨b,o,rfl,h1⟩:=hh (by intro e;rw[e] at hx;simp at hx)
 have:=h1 k x hx
 exact ⟨b,o,rfl,this 0 _ rfl,this 1 _ rfl,this 2 _ rfl,this 3 _ rfl⟩
theorem Z5.len {α:Type} {ea:α→List Value} {k:Nat} {w:World} {a:Option Addr} {n c:Nat} {l:List α} (h:Z5 ea k w (.slice a n c) l):n=l.length∧l.length≤9223372036854775807:=by
 obtain ⟨a',c',e,h1,h2,_⟩:=h
 injection e with _ e2 _
 unfold maxLen at h2
 exact ⟨e2,Nat.le_trans h1 h2⟩
structure Z34 (l:List El) (n1 n2 n3:Nat):Prop where
 el:l.length≤60
 mv:n1≤60
 ws:n2≤60
 ms:n3≤30
 right:∀ x∈l,Z7 x.id=true
 unlike:XO l
def QG (l:List El) (n1 n2 n3:Nat) (w:World) (e:Ending) (w':World):Prop:=∃ r:Bool,e=.returned (.bool r)∧(r=true→Z34 l n1 n2 n3)∧Below w.heap.size w w'
theorem Z1f (a0 a1 a2 a3:Option Addr) (n0 n1 n2 n3 c0 c1 c2 c3:Nat) (l:List El) (w:World) (h:Z5 El.cells 4 w (.slice a0 n0 c0) l) (h1:n1≤9223372036854775807) (h2:n2≤9223372036854775807) (h3:n3≤9223372036854775807) :
  Calls Tryz.prog 16 #[.agg #[.slice a0 n0 c0,.slice a1 n1 c1,.slice a2 n2 c2,.slice a3 n3 c3]] w fun e w'=>QG l n1 n2 n3 w e w':=by
 have hnl:=h.len
 have hnn:n0≤9223372036854775807:=by omega
 have hB0:Below w.heap.size w (w.alloc (.cells #[.slice a0 n0 c0,.slice a1 n1 c1,.slice a2 n2 c2,.slice a3 n3 c3] 39)):=(Below.refl _ _).alloc (Nat.le_refl _) _
 have x0:(w.alloc (.cells #[.slice a0 n0 c0,.slice a1 n1 c1,.slice a2 n2 c2,.slice a3 n3 c3] 39)).cell? ⟨w.heap.size,0,none⟩=some (.slice a0 n0 c0):=by go_simp
 have x1:(w.alloc (.cells #[.slice a0 n0 c0,.slice a1 n1 c1,.slice a2 n2 c2,.slice a3 n3 c3] 39)).cell? ⟨w.heap.size,1,none⟩=some (.slice a1 n1 c1):=by go_simp
 have x2:(w.alloc (.cells #[.slice a0 n0 c0,.slice a1 n1 c1,.slice a2 n2 c2,.slice a3 n3 c3] 39)).cell? ⟨w.heap.size,2,none⟩=some (.slice a2 n2 c2):=by go_simp
 have x3:(w.alloc (.cells #[.slice a0 n0 c0,.slice a1 n1 c1,.slice a2 n2 c2,.slice a3 n3 c3] 39)).cell? ⟨w.heap.size,3,none⟩=some (.slice a3 n3 c3):=by go_simp
 have HH:=Jh (h.below hB0)
 have HB0:=Lib.hid hB0
 have HNL:=Lib.hid hnl
 have HNO:Hid (∀ w',Below w.heap.size w w'→QG l n1 n2 n3 w (.returned (.bool false)) w'):=Jh (fun w' hb=>⟨false,rfl,fun h=>by (cases h),hb⟩)
 clear h hB0 hnl
 by_cases g0:60<n0
 ·have k0:(60:Int)<(n0:Int):=by omega
  go_enter Tryz.func16,Tryz.ntmps16
  go_upto_region 1 with fail
  generalize (w.alloc (.cells #[.slice a0 n0 c0,.slice a1 n1 c1,.slice a2 n2 c2,.slice a3 n3 c3] 39))=w1 at *
  go_wp2_with fail
  go_ret
  exact HNO.out _ HB0.out
 have k0:¬ ((60:Int)<(n0:Int)):=by omega
 by_cases g1:60<n1
 ·have k1:(60:Int)<(n1:Int):=by omega
  go_enter Tryz.func16,Tryz.ntmps16
  go_upto_region 1 with fail
  generalize (w.alloc (.cells #[.slice a0 n0 c0,.slice a1 n1 c1,.slice a2 n2 c2,.slice a3 n3 c3] 39))=w1 at *
  go_wp2_with fail
  go_ret
  exact HNO.out _ HB0.out
 have k1:¬ ((60:Int)<(n1:Int)):=by omega
 by_cases g2:60<n2
 ·have k2:(60:Int)<(n2:Int):=by omega
  go_enter Tryz.func16,Tryz.ntmps16
  go_upto_region 1 with fail
  generalize (w.alloc (.cells #[.slice a0 n0 c0,.slice a1 n1 c1,.slice a2 n2 c2,.slice a3 n3 c3] 39))=w1 at *
  go_wp2_with fail
  go_ret
  exact HNO.out _ HB0.out
 have k2:¬ ((60:Int)<(n2:Int)):=by omega
 by_cases g3:30<n3
 ·have k3:(30:Int)<(n3:Int):=by omega
  go_enter Tryz.func16,Tryz.ntmps16
  go_upto_region 1 with fail
  generalize (w.alloc (.cells #[.slice a0 n0 c0,.slice a1 n1 c1,.slice a2 n2 c2,.slice a3 n3 c3] 39))=w1 at *
  go_wp2_with fail
  go_ret
  exact HNO.out _ HB0.out
 have k3:¬ ((30:Int)<(n3:Int)):=by omega
 go_enter Tryz.func16,Tryz.ntmps16
 go_upto_region 1 with fail
 generalize (w.alloc (.cells #[.slice a0 n0 c0,.slice a1 n1 c1,.slice a2 n2 c2,.slice a3 n3 c3] 39))=w1 at *
 go_wp2_with fail
 go_loopg [3] n0 (fun g iv wr=>∃ k:Nat,g=n0 - k∧k≤n0∧iv=.int .i64 k∧Hid (∀ j y,j<k→l[j]?=some y→Z7 y.id=true∧Xn l y.id=j)∧Hid (Below w1.heap.size w1 wr))
 case atStart=>exact ⟨0,by omega,Nat.zero_le _,rfl,Jh (fun j y hj=>absurd hj (by omega)),Jh (Below.refl _ _)⟩
 case round =>
  obtain ⟨k,hg,hk,rfl,HP,HB⟩:=hrel
  have HG:=Lib.hid hg
  clear hg
  replace x0:=Z0 HB.out x0
  have HBW:=Jh (HB0.out.trans (HB.out.mono HB0.out.size))
  by_cases hkl:k<n0
  ·obtain ⟨⟨⟨en,er⟩,ec,eg⟩,hx⟩:∃ x,l[k]?=some x:=⟨_,List.getElem?_eq_getElem (by have:=HNL.out;omega)⟩
   obtain ⟨b,o,rfl,y0,y1,-,-⟩:=Z2h (HH.out.below HB.out) hx
   simp only at y0 y1
   have HX:=Lib.hid hx
   have hkk:(k:Int)<(n0:Int):=by omega
   clear hx
   have HPL:Hid (∀ W:World,Below wr.heap.size wr W→Calls Tryz.prog 35 #[.slice (some ⟨b,o,none⟩) n0 c0,.agg #[.int .i64 en,.int .i64 er]] W fun e w'=>e=.returned (.int .i64 (Xn l ⟨en,er⟩))∧Below W.heap.size W w'):=Jh (fun W hW=>by have:=ST (some ⟨b,o,none⟩) c0 l ⟨en,er⟩ W (by have:=(HH.out.below HB.out).below hW;rwa [HNL.out.1] at this) (by have:=HNL.out;omega);rwa [←HNL.out.1] at this)
   obtain ⟨rb,hrb⟩:=Je (Z7 ⟨en,er⟩)
   have HRR:Hid (Calls Tryz.prog 32 #[.agg #[.int .i64 en,.int .i64 er]] wr fun e w'=>e=.returned (.bool rb)∧Below wr.heap.size wr w'):=Jh (by rw[←hrb];exact ZH en er wr)
   have HRB:=Lib.hid hrb
   clear hrb
   go_wp2_with fail
   refine HRR.out.mono ?_
   rintro e w5 ⟨rfl,b5⟩
   have HB5:=Jh (HBW.out.trans (b5.mono HBW.out.size))
   have HB6:=Jh (HB.out.trans (b5.mono HB.out.size))
   have HB55:=Lib.hid b5
   replace x0:=Z0 b5 x0
   replace y0:=Z0 b5 y0
   replace y1:=Z0 b5 y1
   clear b5
   cases rb with
   | false =>
    go_wp2_with fail
    go_quiet (fail)
    go_wp2_with fail
    go_ret
    exact HNO.out _ (below_drewN HB5.out _)
   | true =>
    obtain ⟨pl,hpl⟩:=Je (Xn l ⟨en,er⟩)
    rw[hpl] at HPL
    have HPP:=Lib.hid hpl
    clear hpl
    go_upto_region 7 with fail
    go_region_held3 (fun W=>W.cell? ⟨w.heap.size,0,none⟩=some (.slice (some ⟨b,o,none⟩) n0 c0)∧W.cell? ⟨b,o+k*4,none⟩=some (.int .i64 en)∧W.cell? ⟨b,o+k*4+1,none⟩=some (.int .i64 er)) (first|exact ⟨x0,y0,y1⟩|exact ⟨Z0 b7 x0,Z0 b7 y0,Z0 b7 y1⟩) ((go_at_call 35;((with_reducible refine (HPL.out _ HB55.out.drew).mono ?_);rintro e w7 ⟨rfl,b7⟩;simp only[Y4,ZU] at b7)))
    have HB7:=Jh (HB5.out.trans (b7.mono HB5.out.size))
    have HB8:=Jh (HB6.out.trans (b7.mono HB6.out.size))
    clear b7 x0 y0 y1
    by_cases hpk:pl=(k:Int)
    ·have hpk2:(pl != (k:Int))=false:=by simp[hpk]
     have HN:Hid (∀ j y,j<k+1→l[j]?=some y→Z7 y.id=true∧Xn l y.id=j):=Jh (fun j y hj hy=>by
      by_cases hjk:j<k
      ·exact HP.out j y hjk hy
      ·have:j=k:=by omega
       subst this
       rw[HX.out] at hy
       cases hy
       exact ⟨HRB.out,HPP.out.trans hpk⟩)
     clear hpk
     go_wp2_with fail
     go_roundg (n0 - (k+1))
     case measure=>rw[HG.out];omega
     case rel=>exact ⟨k+1,rfl,hkl,by go_num,HN,HB8⟩
    ·have hpk2:(pl != (k:Int))=true:=by simpa using hpk
     go_wp2_with fail
     go_ret
     exact HNO.out _ HB7.out
  ·have hkk:¬ ((k:Int)<(n0:Int)):=by omega
   have HOK:Hid (Z34 l n1 n2 n3):=Jh (by
    have hkn:∀ (i:Nat) (y:El),l[i]?=some y→Z7 y.id=true∧Xn l y.id=i:=fun i y hy=>HP.out i y (by have:=(List.getElem?_eq_some_iff.1 hy).1;have:=HNL.out;omega) hy
    exact ⟨by have:=HNL.out;omega,by omega,by omega,by omega,fun x hx=>by obtain ⟨i,hi⟩:=List.getElem?_of_mem hx;exact (hkn i x hi).1,Z1y (fun i x hi=>(hkn i x hi).2)⟩)
   go_wp2_with fail
   go_ret
   exact ⟨true,rfl,fun _=>HOK.out,HBW.out⟩
end Go.Proofs.YtlgipkemoldckaaGreatDoor
namespace Go.Proofs.YtlgipkemoldckaaGreatDoor
open Go.ChangeShapes Go.WideShapes Go.RowKit Go.Deep
section
variable {H:Type} {enc:TypeId × Value→H} {w:World} {base:Nat} {spare:Nat→Bool} {held:Bool}
theorem Z39 {fuel:Nat} {cs:List Value} {x:DataW H × List MemPlace} (h:DataW.trod enc Tryz.prog w base spare held fuel 46 cs=some x):∃ y:El,cs=y.cells:=by
 obtain ⟨xs,n,_,_,hlen,hxl,hf⟩:=DataW.trod_struct Tryz.underlying46 h
 have hc:Tryz.prog.cellsOf 46=4:=by kernel_rfl
 have hc1:Tryz.prog.cellsOf 23=2:=by kernel_rfl
 have hc2:Tryz.prog.cellsOf 3=1:=by kernel_rfl
 have hc3:Tryz.prog.cellsOf 4=1:=by kernel_rfl
 rw[hc] at hlen
 match cs,hlen with
 | [a,b,c,d],_ =>
  have f0:DataW.trod enc Tryz.prog w base spare held n 23 [a,b]=xs[0]?:=by simpa [hc1] using hf 0 _ rfl
  have f1:DataW.trod enc Tryz.prog w base spare held n 3 [c]=xs[1]?:=by simpa [hc2] using hf 1 _ rfl
  have f2:DataW.trod enc Tryz.prog w base spare held n 4 [d]=xs[2]?:=by simpa [hc3] using hf 2 _ rfl
  simp at hxl
  obtain ⟨s,hs⟩:=YK (f0.trans (List.getElem?_eq_getElem (by omega)))
  obtain ⟨p,hp,_⟩:=DataW.trod_int Tryz.underlying3 (f1.trans (List.getElem?_eq_getElem (by omega)))
  obtain ⟨q,hq,_⟩:=DataW.trod_bool Tryz.underlying4 (f2.trans (List.getElem?_eq_getElem (by omega)))
  simp at hs hp hq
  exact ⟨⟨s,p,q⟩,by simp[El.cells,hs,hp,hq]⟩
end
end Go.Proofs.YtlgipkemoldckaaGreatDoor
