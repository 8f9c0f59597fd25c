/- ViewBuilds, part 7 of what the proof leans on (made short by a program). -/
import Derived.Test.YtlgipkemoldckaaGreatDoorVbZ6
set_option linter.unusedSimpArgs false
set_option linter.unusedVariables false
set_option linter.unusedSectionVars false
set_option maxRecDepth 20000
set_option maxHeartbeats 30000000
namespace Go.Proofs.YtlgipkemoldckaaGreatDoor
open Go.RowKit
attribute [local go_sem] Oper.semAt_some
def RSp (ob sb:Nat) (A:World) (k:Nat):Prop:=k=ob∨(k≠sb∧sb≤k∧∃ cur,A.heap[k]?=some (.cells cur 109 (0,0)))
theorem Z1M (va:Option Addr) (ca:Nat) (l:List El) (w:World) (hl:Z4 El.cells 4 w (.slice va l.length ca) l) (hln:l.length≤1000) :
  Calls Tryz.prog 45 #[.slice va l.length ca] w fun e w'=>∃ u,e=.returned u∧Own Spn.cells 4 109 w.heap.size w' u (ZW l)∧Below w.heap.size w w':=by
 refine (callsIn_wide (n:=5)).1 ?_
 refine callsIn_of_wp_marks Tryz.func45 rfl trivial ?_ rfl
 simp only[Tryz.ntmps45,List.size_toArray,List.length_cons,List.length_nil,Nat.reduceAdd,Nat.reduceSub,Array.replicate_succ,Array.replicate_zero,List.push_toArray,List.append_toArray,List.nil_append,List.cons_append]
 gi_wp2
 refine ⟨trivial,?_⟩
 refine (callsIn_wide.2 (Qp va l.length ca _)).mono ?_
 rintro e w' ⟨rfl,rfl⟩
 gi_wp2
 have hB0:Below w.heap.size w ((w.alloc (.cells #[.slice none 0 0] 106)).alloc (.cells #[.slice va l.length ca] 34)):=((Below.refl _ _).alloc (Nat.le_refl _) _).alloc (by simp) _
 have o0:((w.alloc (.cells #[.slice none 0 0] 106)).alloc (.cells #[.slice va l.length ca] 34)).heap[w.heap.size]?=some (.cells #[.slice none 0 0] 106 (0,0)) :=
  (Below.heap_alloc _ _ _ (by simp)).trans (World.alloc_heap_new w _)
 have s0:((w.alloc (.cells #[.slice none 0 0] 106)).alloc (.cells #[.slice va l.length ca] 34)).cell? ⟨w.heap.size+1,0,none⟩=some (.slice va l.length ca):=by go_simp
 have z0:((w.alloc (.cells #[.slice none 0 0] 106)).alloc (.cells #[.slice va l.length ca] 34)).heap.size=w.heap.size+2:=by simp
 generalize (w.alloc (.cells #[.slice none 0 0] 106)).alloc (.cells #[.slice va l.length ca] 34)=W0 at *
 have hl0:=hl.below hB0
 refine Z0o (U:=Spn) (by omega) (gf:=91) (lb:=#[.pointer (some ⟨w.heap.size+1,0,none⟩)]) rfl (enters_of Tryz.func91 (by kernel_rfl) rfl)
  (fun x=>#[.agg #[.int .i64 x.blk.n,.int .i64 x.blk.r,.int .i64 x.lo,.int .i64 x.hi]]) (fun _=>rfl) (RSp w.heap.size (W0.heap.size+2)) (·=W0.heap.size+2) (fun W k e=>by rcases e with e|⟨e,e2,_⟩ <;> omega) (fun W W' k hk e=>?_) (fun k e=>by omega) (ZW l)
  (fun pre A=>∃ v,A.heap[w.heap.size]?=some (.cells #[v] 106 (0,0))∧Own Spn.cells 4 109 (W0.heap.size+3) A v pre∧Ext (·=w.heap.size) W0 A)
  (fun pre A A' h hx=>?_)
  (SS 4 (by omega) (w.heap.size+1) _ l (RSp w.heap.size (W0.heap.size+2)) W0 hl0 hln s0 (fun A e=>by rcases e with e|⟨e,e2,_⟩ <;> omega) (fun A e=>by rcases e with e|⟨e,e2,_⟩ <;> omega) (fun A k cur hk h e=>?_) (fun hne b o m c e=>?_)) ⟨_,o0,Own.nil,Ext.refl _ _⟩ ?_ ?_
 ·rcases e with e|⟨e,e2,cur,e3⟩
  ·exact .inl e
  ·exact .inr ⟨e,e2,cur,hk.symm.trans e3⟩
 ·obtain ⟨v,h1,h2,h3⟩:=h
  have hlt:=(Array.getElem?_eq_some_iff.1 h1).1
  exact ⟨v,(hx.block _ hlt (by omega)).trans h1,h2.ext hx (fun b hb e=>by have:=(h2.blk b hb).1;omega),h3.andThen hx (fun i hi e=>by omega)⟩
 ·rcases e with e|⟨_,_,cur',e3⟩
  ·omega
  ·rw[h] at e3
   cases e3
 ·cases e
  obtain ⟨_,_,e1,_,_,h4⟩:=hl
  cases e1
  obtain ⟨b',o',e2,h5⟩:=h4 hne
  cases e2
  obtain ⟨x,hx⟩:∃ x,l[0]?=some x:=by
   cases l with
   | nil=>exact absurd rfl hne
   | cons x r=>exact ⟨x,rfl⟩
  have:=Zj (h5 0 x hx 0 _ rfl)
  refine ⟨fun A e=>?_,by omega⟩
  rcases e with e|⟨e,e2,_⟩ <;> omega
 ·rintro lb pre x A ⟨v,ho,hown,hx⟩ hpx hlt
  have hpl:=hpx.length_le
  have hsl:=UD l
  rw[List.length_append,List.length_singleton] at hpl
  have hAsz:=hx.size
  gi_wp2
  refine ⟨(Ext.refl _ _).alloc _,⟨v,?_,hown.alloc _,hx.alloc _⟩,?_⟩
  ·exact (Below.heap_alloc _ _ _ (Array.getElem?_eq_some_iff.1 ho).1).trans ho
  rintro A2 ⟨v2,ho2,hown2,hxA2⟩ hx2
  have hlA:=hx2.size
  rw[World.size_alloc] at hlA
  have b0:A2.cell? ⟨A.heap.size,0,none⟩=some (.int .i64 x.blk.n):=hx2.keep (by go_simp) (by omega)
  have b1:A2.cell? ⟨A.heap.size,1,none⟩=some (.int .i64 x.blk.r):=hx2.keep (by go_simp) (by omega)
  have b2:A2.cell? ⟨A.heap.size,2,none⟩=some (.int .i64 x.lo):=hx2.keep (by go_simp) (by omega)
  have b3:A2.cell? ⟨A.heap.size,3,none⟩=some (.int .i64 x.hi):=hx2.keep (by go_simp) (by omega)
  have hc2:A2.cell? ⟨w.heap.size,0,none⟩=some v2:=by simp[World.cell?,ho2]
  have hs2:=hxA2.size
  have HO2:=Lib.hid ho2
  have HX2:=Lib.hid hxA2
  clear ho ho2 hx hxA2 hx2 hown hl hl0 s0 o0
  obtain ⟨i0,hi,hz0,hz1',hz2⟩:=info_parts Sn
  gi_wp2_with (gi_at_builtin;refine W9 rfl _ _ _ rfl i0 (.agg #[.int .i64 0,.int .i64 0,.int .i64 0,.int .i64 0]) 32 Tryz.underlying106 hi hz0 hz1' hz2 rfl (by omega) Spn.len Spn.one rfl (hown2.alloc _) x A2.heap.size 1 rfl ?_ (by unfold maxLen;omega) (by omega) (by simp;omega) ?_)
  ·intro j u hj
   match j,hj with
   | 0,hj=>simp[Spn.cells] at hj;subst hj;go_simp
   | 1,hj=>simp[Spn.cells] at hj;subst hj;go_simp
   | 2,hj=>simp[Spn.cells] at hj;subst hj;go_simp
   | 3,hj=>simp[Spn.cells] at hj;subst hj;go_simp
   | n+4,hj=>simp[Spn.cells] at hj
  ·intro v' A5 hown5 hx5
   obtain ⟨g5,c5,n5,rfl⟩:∃ g5 c5 n5,v'=.slice (some ⟨g5,0,none⟩) n5 c5:=by
    rcases hown5.eq_slice with ⟨_,e⟩|⟨g5,c5,e,_,_⟩
    ·simp at e
    ·exact ⟨g5,c5,_,e⟩
   have hne:∀ b,v2.ownBlock=some b→W0.heap.size+3≤b:=fun b hb=>by have:=(hown2.blk b hb).1;omega
   have hsp:∀ b,v2.ownBlock=some b→RSp w.heap.size (W0.heap.size+2) A2 b:=fun b hb=>by
    obtain ⟨cur,hcur⟩:=hown2.tag hb
    have:=hne b hb
    exact .inr ⟨by omega,by omega,cur,hcur⟩
   have hlt4:=(Array.getElem?_eq_some_iff.1 HO2.out).1
   have ho5:A5.heap[w.heap.size]?=some (.cells #[v2] 106 (0,0)):=(hx5.block _ (by simp;omega) (fun e=>by have:=hne _ e;omega)).trans ((Below.heap_alloc _ _ _ hlt4).trans HO2.out)
   have hf5:A5.frozen? ⟨w.heap.size,0,none⟩=false:=by simp[World.frozen?,ho5]
   have hc5:A5.cell? ⟨w.heap.size,0,none⟩=some v2:=by simp[World.cell?,ho5]
   have hx6:Ext (·=w.heap.size) A5 (A5.setCell ⟨w.heap.size,0,none⟩ (.slice (some ⟨g5,0,none⟩) n5 c5)):=(Ext.refl (·=w.heap.size) A5).setCell (p:=⟨w.heap.size,0,none⟩) (.inr rfl) (.slice (some ⟨g5,0,none⟩) n5 c5)
   have r1:(A5.setCell ⟨w.heap.size,0,none⟩ (.slice (some ⟨g5,0,none⟩) n5 c5)).heap[w.heap.size]?=some (.cells #[.slice (some ⟨g5,0,none⟩) n5 c5] 106 (0,0)):=heap_setCell_same A5 _ 0 #[v2] _ (.slice (some ⟨g5,0,none⟩) n5 c5) ho5
   have r2:=hown5.ext hx6 (fun b hb e=>by have:=(hown5.blk b hb).1;omega)
   have r3:Ext (·=w.heap.size) W0 (A5.setCell ⟨w.heap.size,0,none⟩ (.slice (some ⟨g5,0,none⟩) n5 c5)):=((HX2.out.alloc _).andThen hx5 (fun i hi e=>by have:=hne _ e;omega)).andThen hx6 (fun i hi e=>e)
   have r4:Ext (RSp w.heap.size (W0.heap.size+2) A2) A2 (A5.setCell ⟨w.heap.size,0,none⟩ (.slice (some ⟨g5,0,none⟩) n5 c5)):=(((Ext.refl (RSp w.heap.size (W0.heap.size+2) A2) A2).alloc _).andThen hx5 (fun i hi e=>hsp i e)).andThen hx6 (fun i hi e=>.inl e)
   have R1:=Lib.hid r1
   have R2:=Lib.hid r2
   have R3:=Lib.hid r3
   have R4:=Lib.hid r4
   clear r1 r2 r3 r4 hx6 hx5 hown5 hown2 ho5 HO2 HX2
   gi_wp2
   exact ⟨⟨_,R1.out,by first|exact R2.out|(rw[z0];exact R2.out),R3.out⟩,R4.out⟩
 ·rintro A ⟨v,ho,hown,hx⟩ hK
  have hc:A.cell? ⟨w.heap.size,0,none⟩=some v:=by simp[World.cell?,ho]
  have HB1:=Jh (Ext.new hB0 hx (fun i hi _ e=>by omega) (by omega))
  have HO:=Lib.hid hown
  clear ho hB0 hx s0 hl0 hl hown
  gi_wp2
  have hx7:Ext (·=W0.heap.size) A (A.putObj W0.heap.size (.deferred none)):=Yd _ _ _
  have hs7:=HB1.out.size
  refine ⟨by simp,.inl ⟨_,_,rfl,run_takeDeferred hK,?_⟩⟩
  refine ⟨_,results_tmp rfl _ _ _,v,rfl,?_,?_⟩
  ·exact (HO.out.ext hx7 (fun b hb e=>by have:=(HO.out.blk b hb).1;omega)).mono (by omega)
  ·exact Ext.new HB1.out hx7 (fun i hi _ e=>by omega) (by omega)
theorem Vk (V:Vw) (b:Bl) (A:List Ch) (hk:ZV V.H) (ha:XA V.H) (hA:Zm V.H A) (hAl:A.length≤10000):∀ n,R9 V b A.length n
 | 0=>by
  intro u m W _ he hnm
  obtain ⟨m',h1,h2⟩:=S7 hk ha hA u
  have:=XQ _ _ _ he h1
  omega
 | n+1=>Z2j V b A n hA hAl (Vk V b A hk ha hA hAl n) (Z19 V b A.length n (Vk V b A hk ha hA hAl n))
theorem Z2K {K U:Type} [DecidableEq K] {l:List (K × U)} {k:K} {v:U} (h:k∉l.map (·.1)):Zx l k v=l++[(k,v)]:=by
 induction l with
 | nil=>rfl
 | cons p r ih =>
  obtain ⟨a,b⟩:=p
  have h1:¬ a=k:=fun e=>h (by rw[←e];simp)
  have h2:k∉r.map (·.1):=fun e=>h (by simp only[List.map_cons];exact List.mem_cons_of_mem _ e)
  simp only[Zx,h1,if_false,ih h2,List.cons_append]
noncomputable def Ye (l:List El) (ms:List OpD) (rg:St→List Atr) (h:Zi) (A:List Ch):Vw :=
 ⟨X2 l,rg,fun u=>(YA l u).elim [] (fun s=>Y9 l ms s.lo s.hi),Y2 l h A⟩
noncomputable def Xx (l:List El) (ms:List OpD):Pcs:=(ZW l).head?.elim [] (fun s=>Y9 l ms s.lo s.hi)
theorem Z1b {C:List Ch} (hn:C.Pairwise (fun a b=>a.block≠b.block)):∃ D:List Ch,D.Perm C∧D.Pairwise (fun a b=>ZI a.block b.block):=by
 have hdec:∀ a b:St,Decidable (ZI a b):=fun _ _=>Classical.propDecidable _
 let le:Ch→Ch→Bool:=fun a b=>@decide (¬ ZI b.block a.block) (Classical.propDecidable _)
 have hle:∀ a b,le a b=true↔¬ ZI b.block a.block:=fun a b=>@decide_eq_true_iff _ (Classical.propDecidable _)
 have hs:=List.pairwise_mergeSort (le:=le) (l:=C) (fun a b c h1 h2=>by
  rw[hle] at *
  intro h3
  rcases Y5 a.block b.block with h|h|h
  ·exact h2 (ZC h3 h)
  ·rw[h] at h3;exact h2 h3
  ·exact h1 h) (fun a b=>by
  rw[Bool.or_eq_true,hle,hle]
  rcases Y5 a.block b.block with h|h|h
  ·exact .inl (fun k=>Zl _ (ZC h k))
  ·exact .inl (by rw[h];exact Zl _)
  ·exact .inr (fun k=>Zl _ (ZC h k)))
 have hn2:(C.mergeSort le).Pairwise (fun a b=>a.block≠b.block):=(List.mergeSort_perm C le).symm.pairwise hn (fun h e=>h e.symm)
 refine ⟨_,List.mergeSort_perm C le,(List.pairwise_and_iff.2 ⟨hs,hn2⟩).imp (fun {a b} h=>?_)⟩
 rw[hle] at h
 rcases Y5 a.block b.block with k|k|k
 ·exact k
 ·exact absurd k h.2
 ·exact absurd k h.1
theorem Z32 {A C:List Ch} {ks:List St} (g:Gth A (fun s=>s∈ks∨∃ d∈A,d.under=s) C):C.length≤A.length+(ks.length+A.length):=by
 have h1:(C.map Ch.block).Nodup:=List.pairwise_map.2 g.nodup
 have:=h1.length_le_of_subset (l₂:=A.map Ch.block++(ks++A.map Ch.under)) (fun s hs=>by
  obtain ⟨c,hc,rfl⟩:=List.mem_map.1 hs
  rcases g.new c hc with k|⟨_,_,_,k⟩
  ·exact List.mem_append_left _ (List.mem_map.2 ⟨c,k,rfl⟩)
  ·refine List.mem_append_right _ ?_
   rcases k with k|⟨d,k1,k2⟩
   ·exact List.mem_append_left _ k
   ·exact List.mem_append_right _ (List.mem_map.2 ⟨d,k1,k2⟩))
 simpa using this
theorem RQ {l:List El} {h:Zi} {A C:List Ch} (hA:Zm h A) (hk:ZV h) (g:Gth A (fun s=>s∈(ZH l).map (·.1)∨∃ d∈A,d.under=s) C):∃ D,Zm (Y2 l h A) D∧D.length≤A.length+((ZH l).length+A.length):=by
 have g2:=g.mono (T:=fun s=>X2 l s=true∨∃ d∈A,d.under=s) (fun s=>or_congr (VK _ _).symm Iff.rfl)
 obtain ⟨D,h1,h2⟩:=Z1b g.nodup
 refine ⟨D,g2.allOf hA hk h1 h2,?_⟩
 rw[h1.length_eq]
 have:=Z32 g
 rwa [List.length_map] at this
def BdB (W:World) (b:Bl) (gp:Option Addr):Prop:=b.gv=.pointer gp∧W.heap[b.bb]?=some (.cells #[.slice b.va b.l.length b.ca,.map (some b.pb),.map (some b.kb),.pointer gp,.slice b.vb b.ms.length b.cb] 105 (0,0))
theorem BdB.ext {S:Nat→Prop} {W W':World} {b:Bl} {gp:Option Addr} (h:BdB W b gp) (hx:Ext S W W') (hn:¬ S b.bb):BdB W' b gp:=⟨h.1,(hx.block b.bb (Array.getElem?_eq_some_iff.1 h.2).1 hn).trans h.2⟩
theorem BdB.cells {W:World} {b:Bl} {gp:Option Addr} (h:BdB W b gp):W.cell? ⟨b.bb,0,none⟩=some (.slice b.va b.l.length b.ca)∧W.cell? ⟨b.bb,1,none⟩=some (.map (some b.pb))∧W.cell? ⟨b.bb,2,none⟩=some (.map (some b.kb))∧W.cell? ⟨b.bb,3,none⟩=some (.pointer gp)∧W.cell? ⟨b.bb,4,none⟩=some (.slice b.vb b.ms.length b.cb):=by
 have h:=h.2
 refine ⟨?_,?_,?_,?_,?_⟩ <;> simp[World.cell?,h]
theorem Z2d {W:World} {b:Bl} {gp:Option Addr} {rg:St→List Atr} {h:Zi} {A C:List Ch} {F:St→List Ch} {lk:List (St × Sl)} {base:Nat} (hb:BdB W b gp) (hel:Z4 El.cells 4 W (.slice b.va b.l.length b.ca) b.l) (hop:Z4 OpD.cells 26 W (.slice b.vb b.ms.length b.cb) b.ms)
  (hln:b.l.length≤1000∧b.ms.length≤1000) (hA:Zm h A) (hk:ZV h) (hpm:Z6 St.val Spn.val W b.pb (ZH b.l)) (g:Gth A (fun s=>s∈(ZH b.l).map (·.1)∨∃ d∈A,d.under=s) C) (hkm:KM base W b.kb F lk) (hF:∀ u,(F u).Perm (YE C u)∧(F u).Pairwise Yx)
  (hrg:∀ W',Below W.heap.size W W'→∀ u:St,Calls Tryz.prog 44 #[.pointer gp,.agg #[.int .i64 u.n,.int .i64 u.r]] W' fun e w'=>Wk W' (rg u) e w'):BIs W b (Ye b.l b.ms rg h A):=by
 obtain ⟨c0,c1,c2,c3,c4⟩:=hb.cells
 have g2:=g.mono (T:=fun s=>X2 b.l s=true∨∃ d∈A,d.under=s) (fun s=>or_congr (VK _ _).symm Iff.rfl)
 have hkc:∀ u,Yr (Ye b.l b.ms rg h A).H u=F u:=fun u=>Tk (g2.kidsOf hA hk (hF u).1 (hF u).2)
 refine ⟨c0,c1,c2,by rw[hb.1];exact c3,c4,hel,hop,hln,⟨_,hpm,fun u=>rfl⟩,⟨lk,hkm.map,fun u s hs=>?_,fun u hn=>?_⟩,fun W' hW u=>?_,fun u=>rfl,fun u s hs=>?_⟩
 ·rw[hkc];exact (hkm.row u s hs).slice (fun _=>rfl)
 ·rw[hkc];exact hkm.non u hn
 ·rw[hb.1];exact hrg W' hW u
 ·simp only[Ye,hs,Option.elim]
theorem Z06 (b o j:Nat):(⟨b,o,none⟩:Addr).add j=⟨b,o+j,none⟩:=by unfold Addr.add;split <;> simp_all
theorem QT {P:Program} {α:Type} {ea:α→List Value} {q:Nat} {t e:TypeId} (ht:P.underlying t=some (.slice e)) (hsz:(P.info? e).map (·.size)=some q) (a:Option Addr) (n cap p:Nat) (hn:n≤cap) (hp:p≤n) :
  ∃ a' c',(∀ W,(Instr.slice t (.slice a n cap) (some (.int .i64 (p:Int))) none none).run P W=.ok (.slice a' (n - p) c') W)∧(∀ W (l:List α),l.length=n→Z4 ea q W (.slice a n cap) l→Z4 ea q W (.slice a' (n - p) c') (l.drop p)):=by
 obtain ⟨i,hi,hq⟩:∃ i,P.info? e=some i∧i.size=q:=by
  cases h:P.info? e with
  | none=>rw[h] at hsz;cases hsz
  | some i=>rw[h] at hsz;exact ⟨i,rfl,Option.some.inj hsz⟩
 refine ⟨if cap=p then a else a.map (·.add (p*q)),cap - p,fun W=>?_,fun W l hl h=>?_⟩
 ·simp[Instr.slice,Instr.sliceBounds,Instr.sliceBound,asIntOf,run_underlying ht,sizeOf,typeInfo,hi,hq,hp,hn]
 ·obtain ⟨a2,c2,e2,h1,h2,h3⟩:=h
  cases e2
  refine ⟨_,_,by rw[List.length_drop],by rw[List.length_drop];omega,by omega,fun hne=>?_⟩
  have hlt:p<l.length:=by
   rcases Nat.lt_or_ge p l.length with h|h
   ·exact h
   ·exact absurd (List.drop_eq_nil_of_le (by omega)) hne
  have hl0:l≠[]:=by rintro rfl;simp at hne
  obtain ⟨b,off,rfl,h4⟩:=h3 hl0
  rw[if_neg (by omega)]
  refine ⟨b,off+p*q,by simp[Z06],fun i x hi' j u hj=>?_⟩
  rw[List.getElem?_drop] at hi'
  have h5:=h4 (p+i) x hi' j u hj
  rw[Nat.add_mul] at h5
  rw[show off+p*q+i*q+j=off+(p*q+i*q)+j by omega]
  exact h5
theorem Z11:Tryz.prog.underlying 106=some (.slice 109):=by kernel_rfl
theorem Z20:(Tryz.prog.info? 109).map (·.size)=some 4:=by kernel_rfl
theorem Z4.spcells {w:World} {v:Value} {l:List Spn} (h:Z4 Spn.cells 4 w v l) (hne:l≠[]):∃ b o cap,v=.slice (some ⟨b,o,none⟩) l.length cap∧∀ i (x:Spn),l[i]?=some x →
  w.cell? ⟨b,o+i*4,none⟩=some (.int .i64 x.blk.n)∧w.cell? ⟨b,o+i*4+1,none⟩=some (.int .i64 x.blk.r)∧w.cell? ⟨b,o+i*4+2,none⟩=some (.int .i64 x.lo)∧w.cell? ⟨b,o+i*4+3,none⟩=some (.int .i64 x.hi):=by
 obtain ⟨a,cap,rfl,_,_,h4⟩:=h
 obtain ⟨b,o,rfl,h6⟩:=h4 hne
 exact ⟨b,o,cap,rfl,fun i x hi=>⟨h6 i x hi 0 _ rfl,h6 i x hi 1 _ rfl,h6 i x hi 2 _ rfl,h6 i x hi 3 _ rfl⟩⟩
theorem NdB.setKids {W:World} {b:Nat} {id:St} {kind:ByteArray} {x y z:Sl} (h:NdB W b id kind x y z) (x':Sl):NdB (W.setCell ⟨b,5,none⟩ (.slice x'.a x'.n x'.cap)) b id kind x y x':=by
 have h:=show W.heap[b]?=_ from h
 show (World.heap _)[b]?=_
 simp only[World.setCell,Array.getElem?_modify,if_true,h]
 rfl
theorem Yn {α:Type} {D:Nat→Prop} {ea:α→List Value} {k:Nat} {W:World}:Zu D ea k W (.slice Z2.a Z2.n Z2.cap) [] :=
 ⟨⟨none,0,rfl,Nat.le_refl _,Nat.zero_le _,fun h=>absurd rfl h⟩,fun b o n c e h=>absurd rfl h⟩
theorem Vq {D:Nat→Prop} {W:World}:Y4 D W (.slice Z2.a Z2.n Z2.cap) []:=⟨[],Yn,rfl,fun j x h=>by simp at h⟩
theorem Sm (va vk vb gp:Option Addr) (ca ck cb:Nat) (l:List El) (A:List Ch) (ms:List OpD) (rg:St→List Atr) (h:Zi) (w:World)
  (hl:Z4 El.cells 4 w (.slice va l.length ca) l) (hln:l.length≤990) (hul:XJ l) (hv:Z4 Ch.cells 5 w (.slice vk A.length ck) A) (hAl:A.length≤1000) (hA:Zm h A) (hk:ZV h) (ha:XA h) (h0:h ⟨0,0⟩=none)
  (hm:Z4 OpD.cells 26 w (.slice vb ms.length cb) ms) (hml:ms.length≤1000)
  (hrg:∀ W',Below w.heap.size w W'→∀ u:St,Calls Tryz.prog 44 #[.pointer gp,.agg #[.int .i64 u.n,.int .i64 u.r]] W' fun e w'=>Wk W' (rg u) e w') :
  Calls Tryz.prog 27 #[.slice va l.length ca,.slice vk A.length ck,.pointer gp,.slice vb ms.length cb] w fun e w'=>∃ (x:NdV) (n:Nat),e=.returned (.agg #[.int .i64 x.id.n,.int .i64 x.id.r,.string x.kind,.slice x.attrs.a x.attrs.n x.attrs.cap,.slice x.text.a x.text.n x.text.cap,.slice x.kids.a x.kids.n x.kids.cap]) ∧
   (∀ A':List Ch,Zm (Y2 l h A) A'→A'.length+1≤n)∧Zr (fun k=>w.heap.size≤k) w' x ((Ye l ms rg h A).tree (Xx l ms) n)∧Below w.heap.size w w':=by
 have hmm:=@run_makeMap Tryz.prog
 have hz1:((((w.alloc (.cells #[.int .i64 0,.int .i64 0,.string ⟨#[]⟩,.slice none 0 0,.slice none 0 0,.slice none 0 0] 28)).alloc (.map #[] 0)).alloc (.map #[] 0)).alloc (.cells #[.slice va l.length ca,.map (some (w.heap.size+1)),.map (some (w.heap.size+1+1)),.pointer gp,.slice vb ms.length cb] 105)).heap.size=w.heap.size+4:=by simp
 have hB0:Below w.heap.size w ((((w.alloc (.cells #[.int .i64 0,.int .i64 0,.string ⟨#[]⟩,.slice none 0 0,.slice none 0 0,.slice none 0 0] 28)).alloc (.map #[] 0)).alloc (.map #[] 0)).alloc (.cells #[.slice va l.length ca,.map (some (w.heap.size+1)),.map (some (w.heap.size+1+1)),.pointer gp,.slice vb ms.length cb] 105)):=((((Below.refl _ _).alloc (Nat.le_refl _) _).alloc (by simp) _).alloc (by simp;omega) _).alloc (by simp;omega) _
 have hrb:NdB ((((w.alloc (.cells #[.int .i64 0,.int .i64 0,.string ⟨#[]⟩,.slice none 0 0,.slice none 0 0,.slice none 0 0] 28)).alloc (.map #[] 0)).alloc (.map #[] 0)).alloc (.cells #[.slice va l.length ca,.map (some (w.heap.size+1)),.map (some (w.heap.size+1+1)),.pointer gp,.slice vb ms.length cb] 105)) w.heap.size ⟨0,0⟩ ⟨#[]⟩ Z2 Z2 Z2:=(Xb w).ext ((((Ext.refl (fun _=>False) _).alloc _).alloc _).alloc _) (fun f=>f)
 have hpm:Z6 St.val Spn.val ((((w.alloc (.cells #[.int .i64 0,.int .i64 0,.string ⟨#[]⟩,.slice none 0 0,.slice none 0 0,.slice none 0 0] 28)).alloc (.map #[] 0)).alloc (.map #[] 0)).alloc (.cells #[.slice va l.length ca,.map (some (w.heap.size+1)),.map (some (w.heap.size+1+1)),.pointer gp,.slice vb ms.length cb] 105)) (w.heap.size+1) []:=by
  have:=((Z6.made (ek:=St.val) (ev:=Spn.val) (w.alloc (.cells #[.int .i64 0,.int .i64 0,.string ⟨#[]⟩,.slice none 0 0,.slice none 0 0,.slice none 0 0] 28))).alloc (.map #[] 0)).alloc (.cells #[.slice va l.length ca,.map (some (w.heap.size+1)),.map (some (w.heap.size+1+1)),.pointer gp,.slice vb ms.length cb] 105)
  rwa [World.size_alloc] at this
 have hkm:Z6 St.val Sl.val ((((w.alloc (.cells #[.int .i64 0,.int .i64 0,.string ⟨#[]⟩,.slice none 0 0,.slice none 0 0,.slice none 0 0] 28)).alloc (.map #[] 0)).alloc (.map #[] 0)).alloc (.cells #[.slice va l.length ca,.map (some (w.heap.size+1)),.map (some (w.heap.size+1+1)),.pointer gp,.slice vb ms.length cb] 105)) (w.heap.size+1+1) []:=by
  have:=(Z6.made (ek:=St.val) (ev:=Sl.val) ((w.alloc (.cells #[.int .i64 0,.int .i64 0,.string ⟨#[]⟩,.slice none 0 0,.slice none 0 0,.slice none 0 0] 28)).alloc (.map #[] 0))).alloc (.cells #[.slice va l.length ca,.map (some (w.heap.size+1)),.map (some (w.heap.size+1+1)),.pointer gp,.slice vb ms.length cb] 105)
  rwa [World.size_alloc,World.size_alloc] at this
 have hbd:BdB ((((w.alloc (.cells #[.int .i64 0,.int .i64 0,.string ⟨#[]⟩,.slice none 0 0,.slice none 0 0,.slice none 0 0] 28)).alloc (.map #[] 0)).alloc (.map #[] 0)).alloc (.cells #[.slice va l.length ca,.map (some (w.heap.size+1)),.map (some (w.heap.size+1+1)),.pointer gp,.slice vb ms.length cb] 105)) ⟨w.heap.size+1+1+1,w.heap.size+1,w.heap.size+1+1,va,ca,vb,cb,.pointer gp,l,ms⟩ gp:=by
  have:=World.alloc_heap_new (((w.alloc (.cells #[.int .i64 0,.int .i64 0,.string ⟨#[]⟩,.slice none 0 0,.slice none 0 0,.slice none 0 0] 28)).alloc (.map #[] 0)).alloc (.map #[] 0)) (.cells #[.slice va l.length ca,.map (some (w.heap.size+1)),.map (some (w.heap.size+1+1)),.pointer gp,.slice vb ms.length cb] 105)
  rw[World.size_alloc,World.size_alloc,World.size_alloc] at this
  exact ⟨rfl,this⟩
 have hl1:=hl.below hB0
 have hv1:=hv.below hB0
 have hm1:=hm.below hB0
 have HRG:=Jh (fun W (hW:Below w.heap.size w W)=>hrg W hW)
 have hnd:A.Pairwise (fun a b=>a.block≠b.block):=hA.2.imp (fun {a b} h e=>by rw[e] at h;exact Zl _ h)
 have hA0:∀ c∈A,c.block≠⟨0,0⟩:=fun c hc e=>by have:=(hA.1 c).1 hc;rw[e,h0] at this;cases this
 have HP0:=Jh (And.intro hnd hA0)
 have HHK:=Jh (And.intro hA (And.intro hk (And.intro ha h0)))
 have HIN:=Jh (And.intro hl1 (And.intro hv1 hm1))
 have HI0:=Jh (And.intro hl (And.intro hv hm))
 have HB0:=Lib.hid hB0
 have HRB:=Lib.hid hrb
 have HPM:=Lib.hid hpm
 have HKM:=Lib.hid hkm
 have HBD:=Lib.hid hbd
 have HZ1:=Lib.hid hz1
 have HUL:=Lib.hid hul
 clear hnd hA0 hA hk ha h0 hl hv hm hrg hl1 hv1 hm1 hB0 hrb hpm hkm hbd hz1 hul
 go_enter Tryz.func27,Tryz.ntmps27
 go_upto_region 2 with fail
 generalize ((((w.alloc (.cells #[.int .i64 0,.int .i64 0,.string ⟨#[]⟩,.slice none 0 0,.slice none 0 0,.slice none 0 0] 28)).alloc (.map #[] 0)).alloc (.map #[] 0)).alloc (.cells #[.slice va l.length ca,.map (some (w.heap.size+1)),.map (some (w.heap.size+1+1)),.pointer gp,.slice vb ms.length cb] 105))=w1 at *
 obtain ⟨pb,kb,bb,hpb,hkb,hbb⟩:∃ pb kb bb,w.heap.size+1=pb∧w.heap.size+1+1=kb∧w.heap.size+1+1+1=bb:=⟨_,_,_,rfl,rfl,rfl⟩
 have hord:w.heap.size<pb∧pb<kb∧kb<bb∧bb<w1.heap.size:=by have:=HZ1.out;omega
 rw[hbb,hkb,hpb] at HBD ⊢
 rw[hkb] at HKM
 rw[hpb] at HPM
 obtain ⟨ho1,ho2,ho3,ho4⟩:=hord
 clear hpb hkb hbb HZ1 hmm
 go_wp2_with fail
 refine (Z1M va ca l w1 HIN.out.1 (by omega)).mono ?_
 rintro e w2 ⟨u,rfl,hown,b2⟩
 obtain ⟨n0,R,hP⟩:=Xo l
 have hR:ZH l=R.map (fun s=>(s.blk,s)):=by unfold ZH;rw[hP];rfl
 have hnk:=Te HUL.out
 have hRl:R.length≤l.length:=by have:=UD l;rw[hP] at this;simp at this;omega
 rw[hP] at hown
 rcases hown.eq_slice with ⟨_,e⟩|⟨gb,cs,rfl,hg1,hg2⟩
 ·cases e
 obtain ⟨_,_,e,hcs1,hcs2,-⟩:=hown.slice (fun _=>rfl)
 cases e
 unfold maxLen at hcs2
 obtain ⟨a1,c1,hsl,hS1⟩:=QT (P:=Tryz.prog) (ea:=Spn.cells) Z11 Z20 (some ⟨gb,0,none⟩) (R.length+1) cs 1 hcs1 (by omega)
 have hsl2:∀ W,(Instr.slice 106 (.slice (some ⟨gb,0,none⟩) (R.length+1) cs) (some (.int .i64 1)) none none).run Tryz.prog W=.ok (.slice a1 R.length c1) W:=hsl
 have hz2:=b2.size
 have HS1:Hid (∀ W,Ext (·=pb) w2 W→Z4 Spn.cells 4 W (.slice a1 R.length c1) R):=Jh (fun W hW=>hS1 W (⟨⟨0,0⟩,0,n0⟩ :: R) rfl ((hown.ext hW (fun j hj e=>by have:=(hown.blk j hj).1;omega)).slice (fun _=>rfl)))
 have HOW:=Lib.hid hown
 have HPR:=Jh (And.intro hP hR)
 have HNK:=Lib.hid hnk
 have HB2:=Jh (HB0.out.trans (b2.mono HB0.out.size))
 have HPM2:=Jh (HPM.out.below b2)
 have HKM2:=Jh (HKM.out.below b2)
 have HBD2:=Jh (HBD.out.ext (Ext.of_below (S:=fun _=>False) b2) (fun f=>f))
 have HRB2:=Jh (HRB.out.ext (Ext.of_below (S:=fun _=>False) b2) (fun f=>f))
 clear hsl hS1 hown hP hR hnk b2 HB0 HPM HKM HBD HRB HIN HUL
 have hlen0:∀ (s:Spn) (r:List Spn),(s :: r).length=r.length+1:=fun _ _=>rfl
 simp only[hlen0]
 clear hlen0
 go_wp2_with fail
 go_loopg [27] R.length (fun g iv wx=>∃ k:Nat,g=R.length - k∧k≤R.length∧iv=.int .i64 k∧Hid (Z6 St.val Spn.val wx pb ((ZH l).take k))∧Hid (Ext (·=pb) w2 wx))
 case atStart=>exact ⟨0,rfl,Nat.zero_le _,rfl,HPM2,Jh (Ext.refl _ _)⟩
 case round =>
  obtain ⟨k,hg,hk,rfl,HM,HX⟩:=hrel
  have HG:=Lib.hid hg
  have hwz:=HX.out.size
  clear hg
  have hbd:=HBD2.out.ext HX.out (fun e=>by (try simp only at e);omega)
  by_cases hlt:k<R.length
  ·obtain ⟨x,hx⟩:∃ x,R[k]?=some x:=⟨_,List.getElem?_eq_getElem hlt⟩
   have hkk:(k:Int)<(R.length:Int):=by omega
   have hk0:(0:Int)≤(k:Int):=by omega
   obtain ⟨ba,oa,ca1,e1,hcs⟩:=(HS1.out _ HX.out).spcells (by intro e;rw[e] at hlt;simp at hlt)
   cases e1
   obtain ⟨y0,y1,y2,y3⟩:=hcs k _ hx
   have hpk:(ZH l)[k]?=some (x.blk,x):=by rw[HPR.out.2,List.getElem?_map,hx];rfl
   have hfr:x.blk∉((ZH l).take k).map (·.1):=by
    intro hm
    have hnd:=HNK.out
    have hkl:=(List.getElem?_eq_some_iff.1 hpk).1
    rw[←List.take_append_drop k (ZH l),List.map_append,List.nodup_append] at hnd
    refine hnd.2.2 _ hm x.blk (List.mem_map.2 ⟨(x.blk,x),?_,rfl⟩) rfl
    exact List.mem_iff_getElem?.2 ⟨0,by rw[List.getElem?_drop];exact hpk⟩
   have hst:Zx ((ZH l).take k) x.blk x=(ZH l).take (k+1):=by rw[Z2K hfr,List.take_add_one,hpk];rfl
   have HST:=Lib.hid hst
   obtain ⟨⟨xn,xr⟩,xlo,xhi⟩:=x
   simp only at y0 y1 y2 y3
   clear hx hcs hpk hfr hst
   go_upto_region 6 with fail
   have hsb:SpB (wr.alloc (.cells #[.int .i64 xn,.int .i64 xr,.int .i64 xlo,.int .i64 xhi] 109)) wr.heap.size ⟨xn,xr⟩ xlo xhi:=World.alloc_heap_new wr _
   have hm4:=HM.out.alloc (.cells #[.int .i64 xn,.int .i64 xr,.int .i64 xlo,.int .i64 xhi] 109)
   have hx4:=Jh (HX.out.alloc (.cells #[.int .i64 xn,.int .i64 xr,.int .i64 xlo,.int .i64 xhi] 109))
   obtain ⟨d0,d1,d2,d3,d4⟩:=(hbd.ext ((Ext.refl (fun _=>False) wr).alloc (.cells #[.int .i64 xn,.int .i64 xr,.int .i64 xlo,.int .i64 xhi] 109)) (fun f=>f)).cells
   clear y0 y1 y2 y3 hbd d0 d2 d3 d4
   generalize wr.alloc (.cells #[.int .i64 xn,.int .i64 xr,.int .i64 xlo,.int .i64 xhi] 109)=w4 at *
   obtain ⟨s0,s1,s2,s3,-⟩:=hsb.cells
   have hupd:(Instr.mapUpdate 102 (.map (some pb)) (.agg #[.int .i64 xn,.int .i64 xr]) (.agg #[.int .i64 xn,.int .i64 xr,.int .i64 xlo,.int .i64 xhi])).run Tryz.prog w4.drew=.ok () (Zn w4.drew pb (Zp ((ZH l).take k) ⟨xn,xr⟩) (St.val ⟨xn,xr⟩) (Spn.val ⟨⟨xn,xr⟩,xlo,xhi⟩)):=hm4.drew.update ZL S1 ⟨xn,xr⟩ _
   have hS0:(fun W:World=>W.cell? ⟨bb,1,none⟩=some (.map (some pb))∧W.cell? ⟨wr.heap.size,0,none⟩=some (.int .i64 xn)∧W.cell? ⟨wr.heap.size,1,none⟩=some (.int .i64 xr)∧W.cell? ⟨wr.heap.size,2,none⟩=some (.int .i64 xlo)∧W.cell? ⟨wr.heap.size,3,none⟩=some (.int .i64 xhi)) w4.drew:=⟨d1,s0,s1,s2,s3⟩
   refine Zf (fun W:World=>W.cell? ⟨bb,1,none⟩=some (.map (some pb))∧W.cell? ⟨wr.heap.size,0,none⟩=some (.int .i64 xn)∧W.cell? ⟨wr.heap.size,1,none⟩=some (.int .i64 xr)∧W.cell? ⟨wr.heap.size,2,none⟩=some (.int .i64 xlo)∧W.cell? ⟨wr.heap.size,3,none⟩=some (.int .i64 xhi)) (fun i=>i == 7) (by kernel_rfl) ?_
   refine JR 0 31 _ rfl rfl hS0 (fun W hW=>by obtain ⟨q0,q1,q2,q3,q4⟩:=hW;go_simp;try rfl) ?_
   try simp only[Ja]
   refine JR 1 32 _ rfl rfl hS0 (fun W hW=>by obtain ⟨q0,q1,q2,q3,q4⟩:=hW;go_simp;try rfl) ?_
   try simp only[Ja]
   refine JR 2 33 _ rfl rfl hS0 (fun W hW=>by obtain ⟨q0,q1,q2,q3,q4⟩:=hW;go_simp;try rfl) ?_
   try simp only[Ja]
   refine JR 3 34 (.map (some pb)) rfl rfl hS0 (fun W hW=>by obtain ⟨q0,q1,q2,q3,q4⟩:=hW;go_simp;try rfl) ?_
   try simp only[Ja]
   refine JR 4 35 _ rfl rfl hS0 (fun W hW=>by obtain ⟨q0,q1,q2,q3,q4⟩:=hW;go_simp;try rfl) ?_
   try simp only[Ja]
   refine JR 5 36 (.agg #[.int .i64 xn,.int .i64 xr]) rfl rfl hS0 (fun W hW=>by obtain ⟨q0,q1,q2,q3,q4⟩:=hW;go_simp;try rfl) ?_
   try simp only[Ja]
   refine JR 6 37 (.agg #[.int .i64 xn,.int .i64 xr,.int .i64 xlo,.int .i64 xhi]) rfl rfl hS0 (fun W hW=>by obtain ⟨q0,q1,q2,q3,q4⟩:=hW;go_simp;try rfl) ?_
   try simp only[Ja]
   refine Zg (i:=7) (d:=none) (w':=Zn w4.drew pb (Zp ((ZH l).take k) ⟨xn,xr⟩) (St.val ⟨xn,xr⟩) (Spn.val ⟨⟨xn,xr⟩,xlo,xhi⟩)) (by kernel_rfl) rfl rfl (by rfl) (by go_simp;try rw[hupd]) (fun h=>by cases h) ?_
   try simp only[Ja]
   refine Zd (by kernel_rfl) ?_ _
   have HM5:=Jh (hm4.drew.put ⟨xn,xr⟩ (⟨⟨xn,xr⟩,xlo,xhi⟩:Spn))
   have HX5:=Jh (Ext.trans (⟨hx4.out.os,hx4.out.tape,hx4.out.output,hx4.out.size,hx4.out.block⟩:Ext (·=pb) w2 w4.drew) (Xs w4.drew pb (Zp ((ZH l).take k) ⟨xn,xr⟩) (St.val ⟨xn,xr⟩) (Spn.val ⟨⟨xn,xr⟩,xlo,xhi⟩)))
   clear hS0 hupd hm4 hx4 hsb s0 s1 s2 s3 d1
   generalize Zn w4.drew pb (Zp ((ZH l).take k) ⟨xn,xr⟩) (St.val ⟨xn,xr⟩) (Spn.val ⟨⟨xn,xr⟩,xlo,xhi⟩)=w5 at *
   go_wp2_with fail
   go_roundg (R.length - (k+1))
   case measure=>rw[HG.out];omega
   case rel=>exact ⟨k+1,rfl,hlt,by go_num,by rw[←HST.out];exact HM5,HX5⟩
  ·obtain rfl:k=R.length:=by omega
   have hkk:¬ (R.length:Int)<(R.length:Int):=by omega
   have hpr:(ZH l).length=R.length:=by rw[HPR.out.2,List.length_map]
   rw[←hpr,List.take_length] at HM
   have HPL:=Lib.hid hpr
   clear hpr hlt hk
   obtain ⟨-,d1,d2,-,-⟩:=hbd.cells
   have HBD3:=Lib.hid hbd
   have HB3:=Jh (Ext.new HB2.out HX.out (fun i hi _ e=>by omega) HB2.out.size)
   have hkm3:=HKM2.out.ext HX.out (fun e=>by (try simp only at e);omega)
   have HRB3:=Jh (HRB2.out.ext HX.out (fun e=>by (try simp only at e);omega))
   have HOW3:=Jh (HOW.out.ext HX.out (fun j hj e=>by have:=(HOW.out.blk j hj).1;omega))
   have HKM3:=Lib.hid hkm3
   clear hbd hkm3 HBD2 HKM2 HRB2 HS1 HPM2
   go_wp2_with fail
   refine (Z1K bb kb pb vk ck A (ZH l) wr d1 d2 HM.out (by rw[HPL.out];omega) HKM3.out (HI0.out.2.1.below HB3.out) hAl HP0.out.1 HP0.out.2 (by omega)).mono ?_
   rintro e w5 ⟨rfl,C,F,lk,g,hkm5,hF,hx5⟩
   have hz5:=hx5.size
   have hb5:=Ext.new HB3.out hx5 (fun i hi _ e=>by (try simp only at e);omega) HB3.out.size
   have hbd5:=HBD3.out.ext hx5 (fun e=>by (try simp only at e);omega)
   have hpm5:=HM.out.ext hx5 (fun e=>by (try simp only at e);omega)
   obtain ⟨D,hD,hDl⟩:=RQ HHK.out.1 HHK.out.2.1 g
   rw[HPL.out] at hDl
   have hbi:=Z2d (b:=⟨bb,pb,kb,va,ca,vb,cb,.pointer gp,l,ms⟩) hbd5 (HI0.out.1.below hb5) (HI0.out.2.2.below hb5) ⟨by show l.length≤1000;omega,hml⟩ HHK.out.1 HHK.out.2.1 hpm5 g hkm5 hF (fun W hW=>HRG.out W (hb5.trans (hW.mono hb5.size)))
   have HBI:=Lib.hid hbi
   have HB5:=Lib.hid hb5
   have HDD:=Lib.hid hD
   have HRB5:=Jh (HRB3.out.ext hx5 (fun e=>by (try simp only at e);omega))
   have HOW5:=Jh (HOW3.out.ext hx5 (fun j hj e=>by have:=(HOW3.out.blk j hj).1;(try simp only at e);omega))
   have hw5:w1.heap.size≤w5.heap.size:=by omega
   clear g hkm5 hF hx5 hb5 hbd5 hpm5 hbi hD HM HX HKM3 HRB3 HOW3 HBD3 HB3 HP0 HRG HNK HPL d1 d2 hkk
   go_upto_region 10 with fail
   have hdn:NdB (w5.alloc (.cells #[.int .i64 0,.int .i64 0,.string ⟨#[100,111,99]⟩,.slice none 0 0,.slice none 0 0,.slice none 0 0] 28)) w5.heap.size ⟨0,0⟩ ⟨#[100,111,99]⟩ Z2 Z2 Z2:=World.alloc_heap_new w5 _
   have hb6:Below w5.heap.size w5 (w5.alloc (.cells #[.int .i64 0,.int .i64 0,.string ⟨#[100,111,99]⟩,.slice none 0 0,.slice none 0 0,.slice none 0 0] 28)):=(Below.refl _ _).alloc (Nat.le_refl _) _
   have hz6:(w5.alloc (.cells #[.int .i64 0,.int .i64 0,.string ⟨#[100,111,99]⟩,.slice none 0 0,.slice none 0 0,.slice none 0 0] 28)).heap.size=w5.heap.size+1:=by simp
   have how6:=HOW5.out.alloc (.cells #[.int .i64 0,.int .i64 0,.string ⟨#[100,111,99]⟩,.slice none 0 0,.slice none 0 0,.slice none 0 0] 28)
   generalize w5.alloc (.cells #[.int .i64 0,.int .i64 0,.string ⟨#[100,111,99]⟩,.slice none 0 0,.slice none 0 0,.slice none 0 0] 28)=w6 at *
   have HZ6:=Lib.hid hz6
   have hz6l:w5.heap.size<w6.heap.size:=by omega
   obtain ⟨ba,oa,ca1,e1,hcs⟩:=(how6.slice (fun _=>rfl)).spcells (by simp)
   cases e1
   obtain ⟨y0,y1,y2,y3⟩:=hcs 0 _ rfl
   simp only[Nat.zero_mul,Nat.add_zero,Nat.zero_add] at y0 y1 y2 y3
   have y2b:w6.cell? ⟨gb,2,none⟩=some (.int .i64 0):=y2
   have hsl6:=HI0.out.1.below (HB5.out.trans (hb6.mono HB5.out.size))
   have hop6:=HI0.out.2.2.below (HB5.out.trans (hb6.mono HB5.out.size))
   have HSL6:=Lib.hid hsl6
   have HOP6:=Lib.hid hop6
   have HDN:=Lib.hid hdn
   have HB6:=Lib.hid hb6
   have hRn:(0:Int)<((R.length+1:Nat):Int):=by omega
   clear hz6 how6 hcs hsl6 hop6 hdn hb6 y2 HOW5 HOW
   go_wp2_with fail
   refine (TJ va vb ca cb l ms 0 0 0 n0 w6 HSL6.out HOP6.out (by omega) hml).mono ?_
   rintro e w7 ⟨q,rfl,hq,b7⟩
   have hfp:Xx l ms=Y9 l ms 0 n0:=by unfold Xx;rw[HPR.out.1];rfl
   rw[←hfp] at hq
   obtain ⟨F0,hF0⟩:=Je (Xx l ms)
   rw[hF0] at hq
   have HF0:=Lib.hid hF0
   obtain ⟨qa,qc,rfl,hq1,hq2⟩:=hq.out.shape
   have HQ:=Lib.hid hq.out.toD
   have hz7:=b7.size
   have HD7:=Jh (HDN.out.ext (Ext.of_below (S:=fun _=>False) b7) (fun f=>f))
   have HB7:=Jh (HB6.out.trans (b7.mono (Nat.le_of_lt hz6l)))
   clear hfp hF0 hq b7 y0 y1 y2b y3 hRn HSL6 HOP6 HDN HB6
   obtain ⟨B,hBe⟩:∃ B,B=w7.heap.size:=⟨_,rfl⟩
   have hB1:w5.heap.size<B:=by omega
   have hB2:B≤w7.heap.size:=by omega
   clear hBe
   by_cases hF:F0=[]
   ·subst hF
    simp only[List.length_nil]
    go_upto_region 13 with fail
    have HB8:=Lib.hid HB7.out
    have HND8:=Lib.hid HD7.out
    have HOK8:=Jh (Own.nil:Own NdV.cells 6 28 B w7 Z2.val [])
    have HNS8:=Jh (Zb.nil:Zb (fun j=>w.heap.size<j∧j≠w5.heap.size∧¬ Z2.val.ownBlock=some j) w7 [] [])
    have hlv:([]:List NdV).length≤1:=by first|exact Nat.zero_le _|exact Nat.le_refl _
    generalize w7=w8 at *
    have hz8:=HB8.out.size
    have hrow:=Vk (Ye l ms rg h A) ⟨bb,pb,kb,va,ca,vb,cb,.pointer gp,l,ms⟩ D (Ww HHK.out.2.1) (Ws HHK.out.2.2.1 HHK.out.2.2.2) HDD.out (by omega) (D.length+1) ⟨0,0⟩ 0 w8 (HBI.out.below HB8.out) (YI HHK.out.2.2.2) (by omega)
    have hrl:=Vw.row_le (V:=Ye l ms rg h A) (n:=D.length+1) (b:=⟨0,0⟩) (m:=0) HDD.out (YI HHK.out.2.2.2)
    have HROW:=Lib.hid hrow
    clear hrow
    obtain ⟨-,-,-,-,-,d5,-⟩:=HND8.out.cells
    simp only[Z2] at d5
    have HS:Hid (∀ W,Below w8.heap.size w8 W→W.cell? ⟨w5.heap.size,5,none⟩=some (.slice none 0 0)):=Jh (fun W hW=>Z0 hW d5)
    have hS0:(fun W:World=>W.cell? ⟨w5.heap.size,5,none⟩=some (.slice none 0 0)) w8.drew:=d5
    have hb8d:Below w8.heap.size w8 w8.drew:=(Below.refl _ _).drew
    refine Zf (fun W:World=>W.cell? ⟨w5.heap.size,5,none⟩=some (.slice none 0 0)) (fun i=>i == 7) (by kernel_rfl) ?_
    refine JR 0 59 _ rfl rfl hS0 (fun W hW=>by have q0:=hW;go_simp;try rfl) ?_
    try simp only[Ja]
    refine JR 1 60 (.slice none 0 0) rfl rfl hS0 (fun W hW=>by have q0:=hW;go_simp;try rfl) ?_
    try simp only[Ja]
    refine JR 2 61 _ rfl rfl hS0 (fun W hW=>by have q0:=hW;go_simp;try rfl) ?_
    try simp only[Ja]
    refine JR 3 62 (.agg #[.int .i64 0,.int .i64 0]) rfl rfl hS0 (fun W hW=>by have q0:=hW;go_simp;try rfl) ?_
    try simp only[Ja]
    refine ZB (i:=4) (d:=some 63) (w':=w8.drew) (by kernel_rfl) rfl rfl (by rfl) (by go_simp;try rfl) (((Vk (Ye l ms rg h A) ⟨bb,pb,kb,va,ca,vb,cb,.pointer gp,l,ms⟩ D (Ww HHK.out.2.1) (Ws HHK.out.2.2.1 HHK.out.2.2.2) HDD.out (by omega) (D.length+1) ⟨0,0⟩ 0 w8.drew ((HBI.out.below HB8.out).below hb8d) (YI HHK.out.2.2.2) (by omega))).mono ?_)
    rintro e w9 ⟨v9,us,rfl,hown9,hn9,b9⟩
    have hb9:Below w8.heap.size w8 w9:=hb8d.trans b9
    have hul:us.length≤D.length:=by rw[hn9.1];exact hrl
    have hz9:=hb9.size
    have hok9:=HOK8.out.ext (Ext.of_below (S:=fun _=>False) hb9) (fun _ _ f=>f)
    have hS9:=HS.out _ hb9
    obtain ⟨⟨ga,gn,gc⟩,rfl⟩:=hown9.sl20
    obtain ⟨i0,hi,hz0,hz1,hz2'⟩:=info_parts X8
    obtain ⟨v10,w10,hr10,hown10,hx10,hfr10⟩:=Xz (P:=Tryz.prog) 26 26 i0 (.agg #[.int .i64 0,.int .i64 0,.string ⟨#[]⟩,.slice none 0 0,.slice none 0 0,.slice none 0 0]) 104 YH hi hz0 hz1 hz2' rfl (by omega) NdV.len NdV.one hok9 hown9 (by unfold maxLen;omega) (by omega) (by omega)
    obtain ⟨⟨g8,n8,c8⟩,rfl⟩:=hown10.sl20
    have hblk:∀ j,(Sl.val Z2).ownBlock=some j→B≤j∧j<w8.heap.size:=fun j hj=>HOK8.out.blk j hj
    have hxz:=hx10.size
    have hnd10:=(HND8.out.ext (Ext.of_below (S:=fun _=>False) hb9) (fun f=>f)).ext hx10 (fun e=>by have:=hblk _ e;omega)
    have hrb10:=(((HRB5.out.ext (Ext.of_below (S:=fun _=>False) HB8.out) (fun f=>f)).ext (Ext.of_below (S:=fun _=>False) hb9) (fun f=>f)).ext hx10 (fun e=>by have:=hblk _ e;omega))
    obtain ⟨e0,e1,e2,e3,e4,e5,ef⟩:=hnd10.cells
    simp only[Z2] at e3 e4 e5
    have ef5:=ef 5
    have hS10:(fun W:World=>W.cell? ⟨w5.heap.size,5,none⟩=some (.slice none 0 0)) w10:=e5
    (try simp only[Sl.val,Z2] at hr10)
    refine ⟨_,rfl,fun _=>hS9,?_⟩
    try simp only[Ja]
    refine Zk (i:=5) (d:=some 64) (v:=.slice g8 n8 c8) (w':=w10) (by kernel_rfl) rfl rfl (by rfl) (Ym rfl rfl rfl hr10) (fun _=>hS10) ?_
    try simp only[Ja]
    refine JR 6 65 _ rfl rfl hS10 (fun W hW=>by have q0:=hW;go_simp;try rfl) ?_
    try simp only[Ja]
    refine Zg (i:=7) (d:=none) (w':=w10.setCell ⟨w5.heap.size,5,none⟩ (.slice g8 n8 c8)) (by kernel_rfl) rfl rfl (by rfl) (by go_simp;try rfl) (fun h=>by cases h) ?_
    try simp only[Ja]
    refine Zd (by kernel_rfl) ?_ _
    have hnd11:=hnd10.setKids ⟨g8,n8,c8⟩
    have hxd:Ext (·=w5.heap.size) w10 (w10.setCell ⟨w5.heap.size,5,none⟩ (.slice g8 n8 c8)):=(Ext.refl (·=w5.heap.size) w10).setCell (p:=⟨w5.heap.size,5,none⟩) (.inr rfl) _
    have hob10:∀ j,(Value.slice g8 n8 c8).ownBlock=some j→B≤j:=fun j hj=>by rcases hfr10 j hj with k|k;exact (hblk j k).1;omega
    have hrb11:=hrb10.ext hxd (fun e=>by have:=HB5.out.size;(try simp only at e);omega)
    have hown11:=hown10.ext hxd (fun j hj e=>by have:=hob10 j hj;(try simp only at e);omega)
    have hns11:Zb (fun j=>w.heap.size<j) (w10.setCell ⟨w5.heap.size,5,none⟩ (.slice g8 n8 c8)) (([]:List NdV)++us) (([]:List Nd)++(Ye l ms rg h A).row (D.length+1) ⟨0,0⟩):=by
     refine Zb.append ?_ ?_
     ·refine (((HNS8.out.ext (Ext.of_below (S:=fun _=>False) hb9) (fun _ _ _ f=>f)).ext hx10 (fun j hj _ e=>hj.2.2 e)).ext hxd (fun j hj _ e=>hj.2.1 e)).mono (fun j hj=>hj.1)
     ·refine ((hn9.monoL (D':=fun j=>w8.heap.size≤j) (fun j hj hl=>hj.1)).ext hx10 (fun j hj _ e=>by have:=hblk _ e;omega)).ext hxd (fun j hj _ e=>by (try simp only at e);omega) |>.mono (fun j hj=>by have:=HB5.out.size;omega)
    have hb11:Below w.heap.size w (w10.setCell ⟨w5.heap.size,5,none⟩ (.slice g8 n8 c8)):=by
     have q1:=HB5.out.trans ((HB8.out.trans (hb9.mono hz8)).mono HB5.out.size)
     have q2:=Ext.new q1 hx10 (fun i hi _ e=>by have:=hblk _ e;have:=HB5.out.size;omega) q1.size
     exact Ext.new q2 hxd (fun i hi _ e=>by have:=HB5.out.size;(try simp only at e);omega) q2.size
    have HND:=Lib.hid hnd11
    have HRB:=Lib.hid hrb11
    have HOWN:=Lib.hid hown11
    have HNS:=Lib.hid hns11
    have HB11:=Lib.hid hb11
    clear hnd11 hrb11 hown11 hns11 hb11 hnd10 hrb10 hxd hx10 hr10 hown10 e0 e1 e2 e3 e4 e5 ef ef5 hS0 hS9 hS10 d5 HS
    generalize w10.setCell ⟨w5.heap.size,5,none⟩ (.slice g8 n8 c8)=w11 at *
    obtain ⟨g0,g1,g2,g3,g4,g5,-⟩:=HND.out.cells
    obtain ⟨r0,r1,r2,r3,r4,r5,rf⟩:=HRB.out.cells
    have rf0:=rf 0
    have rf1:=rf 1
    have rf2:=rf 2
    have rf3:=rf 3
    have rf4:=rf 4
    have rf5:=rf 5
    simp only[Z2] at g3 g4 g5 r3 r4 r5
    simp only at g0 g1 g2 r0 r1 r2
    clear rf
    go_wp2_with fail
    (try simp only[Exit.inBlock,Exit.then])
    refine bodyPost_ret (v:=.agg #[.int .i64 0,.int .i64 0,.string ⟨#[100,111,99]⟩,.slice none 0 0,.slice none 0 0,.slice g8 n8 c8]) (by rw[X5 rfl];go_simp) rfl ?_
    have hfx:Ext (·=w.heap.size) w11 ((((((w11.setCell ⟨w.heap.size,0,none⟩ (.int .i64 0)).setCell ⟨w.heap.size,1,none⟩ (.int .i64 0)).setCell ⟨w.heap.size,2,none⟩ (.string ⟨#[100,111,99]⟩)).setCell ⟨w.heap.size,3,none⟩ (.slice none 0 0)).setCell ⟨w.heap.size,4,none⟩ (.slice none 0 0)).setCell ⟨w.heap.size,5,none⟩ (.slice g8 n8 c8)) :=
     ((((((Ext.refl (·=w.heap.size) w11).setCell (p:=⟨w.heap.size,0,none⟩) (.inr rfl) _).setCell (p:=⟨w.heap.size,1,none⟩) (.inr rfl) _).setCell (p:=⟨w.heap.size,2,none⟩) (.inr rfl) _).setCell (p:=⟨w.heap.size,3,none⟩) (.inr rfl) _).setCell (p:=⟨w.heap.size,4,none⟩) (.inr rfl) _).setCell (p:=⟨w.heap.size,5,none⟩) (.inr rfl) _
    have hbs5:=HB5.out.size
    have ho2:=HOWN.out.ext hfx (fun j hj e=>by have:=(HOWN.out.blk j hj).1;(try simp only at e);omega)
    refine ⟨⟨⟨0,0⟩,⟨#[100,111,99]⟩,Z2,Z2,⟨g8,n8,c8⟩⟩,rfl,D.length+1,fun A' hA'=>by rw[hA'.unique HDD.out];exact Nat.le_refl _,?_,Ext.new HB11.out hfx (fun i hi _ e=>by (try simp only at e);omega) HB11.out.size⟩
    unfold Vw.tree
    rw[HF0.out,if_pos rfl]
    refine Zr.make rfl rfl Yn Vq ((ho2.sliceD NdV.len).mono (fun j hj=>by have:=(ho2.blk j hj).1;omega)) ((HNS.out.ext hfx (fun j hj _ e=>by (try simp only at e);omega)).mono (fun j hj=>Nat.le_of_lt hj))
   ·have hF1:(0:Int)<(F0.length:Int):=by have:=List.length_pos_iff.2 hF;omega
    have HNF:=Lib.hid hF
    clear hF
    obtain ⟨d0,d1,d2,d3,d4,d5,df⟩:=HD7.out.cells
    simp only[Z2] at d5
    have df5:=df 5
    clear d0 d1 d2 d3 d4 df
    have hdl:=HD7.out.lt
    obtain ⟨i1,hi1,hz01,hz11,hz21⟩:=info_parts X8
    obtain ⟨x1,hx1⟩:∃ x1:NdV,x1=⟨⟨0,0⟩,Zw,Z2,⟨qa,F0.length,qc⟩,Z2⟩:=⟨_,rfl⟩
    go_wp2_with (at_builtin;refine Zq (l:=[]) rfl _ _ _ rfl i1 (.agg #[.int .i64 0,.int .i64 0,.string ⟨#[]⟩,.slice none 0 0,.slice none 0 0,.slice none 0 0]) 104 YH hi1 hz01 hz11 hz21 rfl (by omega) NdV.len NdV.one rfl (Own.nil:Own NdV.cells 6 28 B _ (.slice none 0 0) []) (⟨⟨0,0⟩,Zw,Z2,⟨qa,F0.length,qc⟩,Z2⟩:NdV) w7.heap.size 1 rfl ?_ (by unfold maxLen;simp) (by simp) (by simp;omega) ?_)
    ·intro j u hj
     match j,hj with
     | 0,hj=>simp[NdV.cells] at hj;subst hj;(try simp only[Zw,Z2]);go_simp
     | 1,hj=>simp[NdV.cells] at hj;subst hj;(try simp only[Zw,Z2]);go_simp
     | 2,hj=>simp[NdV.cells] at hj;subst hj;(try simp only[Zw,Z2]);go_simp
     | 3,hj=>simp[NdV.cells] at hj;subst hj;(try simp only[Zw,Z2]);go_simp
     | 4,hj=>simp[NdV.cells] at hj;subst hj;(try simp only[Zw,Z2]);go_simp
     | 5,hj=>simp[NdV.cells] at hj;subst hj;(try simp only[Zw,Z2]);go_simp
     | n+6,hj=>simp[NdV.cells] at hj
    ·intro v8 wy hown8 hx8 hfr8
     (try simp only[List.nil_append] at hown8)
     obtain ⟨⟨kg,kn,kc⟩,rfl⟩:=hown8.sl20
     have hxy:Ext (fun _=>False) w7 wy:=Ext.new2 ((Ext.refl (fun _=>False) w7).alloc _) hx8 (fun j _ e=>by simp[Value.ownBlock] at e)
     have hfy:∀ j,(Value.slice kg kn kc).ownBlock=some j→w7.heap.size<j:=fun j hj=>by
      rcases hfr8 j hj with k|k
      ·cases k
      ·first|exact k|(have k2:=k;rw[World.size_alloc] at k2;omega)|(have k2:=k;simp at k2;omega)
     have hndy:=HD7.out.ext hxy (fun f=>f)
     have hzy:=hxy.size
     obtain ⟨-,-,-,-,-,e5,ef⟩:=hndy.cells
     simp only[Z2] at e5
     have ef5:=ef 5
     clear ef hx8 hfr8 d5 df5
     have HY:=Jh (And.intro hxy (And.intro hown8 (And.intro hfy hndy)))
     clear hxy hown8 hfy hndy
     go_upto_region 13 with fail
     obtain ⟨hxy,hown8,hfy,hndy⟩:=HY.out
     have hxd:Ext (·=w5.heap.size) wy (wy.setCell ⟨w5.heap.size,5,none⟩ (.slice kg kn kc)):=(Ext.refl (·=w5.heap.size) wy).setCell (p:=⟨w5.heap.size,5,none⟩) (.inr rfl) _
     have hownz:=hown8.ext hxd (fun j hj e=>by have:=(hown8.blk j hj).1;(try simp only at e);omega)
     have hb5w:=HB5.out.size
     have hnsz:Zb (fun j=>w.heap.size<j∧j≠w5.heap.size∧¬ (Sl.mk kg kn kc).val.ownBlock=some j) (wy.setCell ⟨w5.heap.size,5,none⟩ (.slice kg kn kc)) [(⟨⟨0,0⟩,Zw,Z2,⟨qa,F0.length,qc⟩,Z2⟩:NdV)] [Nd.mk ⟨0,0⟩ Zw [] F0 []]:=by
      refine Zb.one (Zr.make rfl rfl Yn ?_ (vs:=[]) Yn Zb.nil)
      refine ((HQ.out.ext hxy (fun _ _ _ f=>f)).ext hxd (fun j hj _ e=>by (try simp only at e);omega)).mono (fun j hj=>⟨by omega,by omega,fun e=>by have:=hfy j e;omega⟩)
     have hndz:=hndy.setKids ⟨kg,kn,kc⟩
     have hbz:Below w5.heap.size w5 (wy.setCell ⟨w5.heap.size,5,none⟩ (.slice kg kn kc)):=Ext.new (Ext.new HB7.out hxy (fun i _ _ f=>f) HB7.out.size) hxd (fun i hi _ e=>by (try simp only at e);omega) (by have:=HB7.out.size;omega)
     have hB3:B≤(wy.setCell ⟨w5.heap.size,5,none⟩ (.slice kg kn kc)).heap.size:=by have:=hxd.size;omega
     clear hxy hown8 hfy hndy hxd HY e5 ef5
     have HB8:=Lib.hid hbz
     have HND8:=Lib.hid hndz
     have HOK8:=Lib.hid hownz
     have HNS8:=Lib.hid hnsz
     have hlv:[(⟨⟨0,0⟩,Zw,Z2,⟨qa,F0.length,qc⟩,Z2⟩:NdV)].length≤1:=by first|exact Nat.zero_le _|exact Nat.le_refl _
     generalize wy.setCell ⟨w5.heap.size,5,none⟩ (.slice kg kn kc)=w8 at *
     have hz8:=HB8.out.size
     have hrow:=Vk (Ye l ms rg h A) ⟨bb,pb,kb,va,ca,vb,cb,.pointer gp,l,ms⟩ D (Ww HHK.out.2.1) (Ws HHK.out.2.2.1 HHK.out.2.2.2) HDD.out (by omega) (D.length+1) ⟨0,0⟩ 0 w8 (HBI.out.below HB8.out) (YI HHK.out.2.2.2) (by omega)
     have hrl:=Vw.row_le (V:=Ye l ms rg h A) (n:=D.length+1) (b:=⟨0,0⟩) (m:=0) HDD.out (YI HHK.out.2.2.2)
     have HROW:=Lib.hid hrow
     clear hrow
     obtain ⟨-,-,-,-,-,d5,-⟩:=HND8.out.cells
     simp only[Z2] at d5
     have HS:Hid (∀ W,Below w8.heap.size w8 W→W.cell? ⟨w5.heap.size,5,none⟩=some (.slice kg kn kc)):=Jh (fun W hW=>Z0 hW d5)
     have hS0:(fun W:World=>W.cell? ⟨w5.heap.size,5,none⟩=some (.slice kg kn kc)) w8.drew:=d5
     have hb8d:Below w8.heap.size w8 w8.drew:=(Below.refl _ _).drew
     refine Zf (fun W:World=>W.cell? ⟨w5.heap.size,5,none⟩=some (.slice kg kn kc)) (fun i=>i == 7) (by kernel_rfl) ?_
     refine JR 0 59 _ rfl rfl hS0 (fun W hW=>by have q0:=hW;go_simp;try rfl) ?_
     try simp only[Ja]
     refine JR 1 60 (.slice kg kn kc) rfl rfl hS0 (fun W hW=>by have q0:=hW;go_simp;try rfl) ?_
     try simp only[Ja]
     refine JR 2 61 _ rfl rfl hS0 (fun W hW=>by have q0:=hW;go_simp;try rfl) ?_
     try simp only[Ja]
     refine JR 3 62 (.agg #[.int .i64 0,.int .i64 0]) rfl rfl hS0 (fun W hW=>by have q0:=hW;go_simp;try rfl) ?_
     try simp only[Ja]
     refine ZB (i:=4) (d:=some 63) (w':=w8.drew) (by kernel_rfl) rfl rfl (by rfl) (by go_simp;try rfl) (((Vk (Ye l ms rg h A) ⟨bb,pb,kb,va,ca,vb,cb,.pointer gp,l,ms⟩ D (Ww HHK.out.2.1) (Ws HHK.out.2.2.1 HHK.out.2.2.2) HDD.out (by omega) (D.length+1) ⟨0,0⟩ 0 w8.drew ((HBI.out.below HB8.out).below hb8d) (YI HHK.out.2.2.2) (by omega))).mono ?_)
     rintro e w9 ⟨v9,us,rfl,hown9,hn9,b9⟩
     have hb9:Below w8.heap.size w8 w9:=hb8d.trans b9
     have hul:us.length≤D.length:=by rw[hn9.1];exact hrl
     have hz9:=hb9.size
     have hok9:=HOK8.out.ext (Ext.of_below (S:=fun _=>False) hb9) (fun _ _ f=>f)
     have hS9:=HS.out _ hb9
     obtain ⟨⟨ga,gn,gc⟩,rfl⟩:=hown9.sl20
     obtain ⟨i0,hi,hz0,hz1,hz2'⟩:=info_parts X8
     obtain ⟨v10,w10,hr10,hown10,hx10,hfr10⟩:=Xz (P:=Tryz.prog) 26 26 i0 (.agg #[.int .i64 0,.int .i64 0,.string ⟨#[]⟩,.slice none 0 0,.slice none 0 0,.slice none 0 0]) 104 YH hi hz0 hz1 hz2' rfl (by omega) NdV.len NdV.one hok9 hown9 (by unfold maxLen;omega) (by omega) (by omega)
     obtain ⟨⟨g8,n8,c8⟩,rfl⟩:=hown10.sl20
     have hblk:∀ j,(Sl.val (Sl.mk kg kn kc)).ownBlock=some j→B≤j∧j<w8.heap.size:=fun j hj=>HOK8.out.blk j hj
     have hxz:=hx10.size
     have hnd10:=(HND8.out.ext (Ext.of_below (S:=fun _=>False) hb9) (fun f=>f)).ext hx10 (fun e=>by have:=hblk _ e;omega)
     have hrb10:=(((HRB5.out.ext (Ext.of_below (S:=fun _=>False) HB8.out) (fun f=>f)).ext (Ext.of_below (S:=fun _=>False) hb9) (fun f=>f)).ext hx10 (fun e=>by have:=hblk _ e;omega))
     obtain ⟨e0,e1,e2,e3,e4,e5,ef⟩:=hnd10.cells
     simp only[Z2] at e3 e4 e5
     have ef5:=ef 5
     have hS10:(fun W:World=>W.cell? ⟨w5.heap.size,5,none⟩=some (.slice kg kn kc)) w10:=e5
     (try simp only[Sl.val] at hr10)
     refine ⟨_,rfl,fun _=>hS9,?_⟩
     try simp only[Ja]
     refine Zk (i:=5) (d:=some 64) (v:=.slice g8 n8 c8) (w':=w10) (by kernel_rfl) rfl rfl (by rfl) (Ym rfl rfl rfl hr10) (fun _=>hS10) ?_
     try simp only[Ja]
     refine JR 6 65 _ rfl rfl hS10 (fun W hW=>by have q0:=hW;go_simp;try rfl) ?_
     try simp only[Ja]
     refine Zg (i:=7) (d:=none) (w':=w10.setCell ⟨w5.heap.size,5,none⟩ (.slice g8 n8 c8)) (by kernel_rfl) rfl rfl (by rfl) (by go_simp;try rfl) (fun h=>by cases h) ?_
     try simp only[Ja]
     refine Zd (by kernel_rfl) ?_ _
     have hnd11:=hnd10.setKids ⟨g8,n8,c8⟩
     have hxd:Ext (·=w5.heap.size) w10 (w10.setCell ⟨w5.heap.size,5,none⟩ (.slice g8 n8 c8)):=(Ext.refl (·=w5.heap.size) w10).setCell (p:=⟨w5.heap.size,5,none⟩) (.inr rfl) _
     have hob10:∀ j,(Value.slice g8 n8 c8).ownBlock=some j→B≤j:=fun j hj=>by rcases hfr10 j hj with k|k;exact (hblk j k).1;omega
     have hrb11:=hrb10.ext hxd (fun e=>by have:=HB5.out.size;(try simp only at e);omega)
     have hown11:=hown10.ext hxd (fun j hj e=>by have:=hob10 j hj;(try simp only at e);omega)
     have hns11:Zb (fun j=>w.heap.size<j) (w10.setCell ⟨w5.heap.size,5,none⟩ (.slice g8 n8 c8)) ([(⟨⟨0,0⟩,Zw,Z2,⟨qa,F0.length,qc⟩,Z2⟩:NdV)]++us) ([Nd.mk ⟨0,0⟩ Zw [] F0 []]++(Ye l ms rg h A).row (D.length+1) ⟨0,0⟩):=by
      refine Zb.append ?_ ?_
      ·refine (((HNS8.out.ext (Ext.of_below (S:=fun _=>False) hb9) (fun _ _ _ f=>f)).ext hx10 (fun j hj _ e=>hj.2.2 e)).ext hxd (fun j hj _ e=>hj.2.1 e)).mono (fun j hj=>hj.1)
      ·refine ((hn9.monoL (D':=fun j=>w8.heap.size≤j) (fun j hj hl=>hj.1)).ext hx10 (fun j hj _ e=>by have:=hblk _ e;omega)).ext hxd (fun j hj _ e=>by (try simp only at e);omega) |>.mono (fun j hj=>by have:=HB5.out.size;omega)
     have hb11:Below w.heap.size w (w10.setCell ⟨w5.heap.size,5,none⟩ (.slice g8 n8 c8)):=by
      have q1:=HB5.out.trans ((HB8.out.trans (hb9.mono hz8)).mono HB5.out.size)
      have q2:=Ext.new q1 hx10 (fun i hi _ e=>by have:=hblk _ e;have:=HB5.out.size;omega) q1.size
      exact Ext.new q2 hxd (fun i hi _ e=>by have:=HB5.out.size;(try simp only at e);omega) q2.size
     have HND:=Lib.hid hnd11
     have HRB:=Lib.hid hrb11
     have HOWN:=Lib.hid hown11
     have HNS:=Lib.hid hns11
     have HB11:=Lib.hid hb11
     clear hnd11 hrb11 hown11 hns11 hb11 hnd10 hrb10 hxd hx10 hr10 hown10 e0 e1 e2 e3 e4 e5 ef ef5 hS0 hS9 hS10 d5 HS
     generalize w10.setCell ⟨w5.heap.size,5,none⟩ (.slice g8 n8 c8)=w11 at *
     obtain ⟨g0,g1,g2,g3,g4,g5,-⟩:=HND.out.cells
     obtain ⟨r0,r1,r2,r3,r4,r5,rf⟩:=HRB.out.cells
     have rf0:=rf 0
     have rf1:=rf 1
     have rf2:=rf 2
     have rf3:=rf 3
     have rf4:=rf 4
     have rf5:=rf 5
     simp only[Z2] at g3 g4 g5 r3 r4 r5
     simp only at g0 g1 g2 r0 r1 r2
     clear rf
     go_wp2_with fail
     (try simp only[Exit.inBlock,Exit.then])
     refine bodyPost_ret (v:=.agg #[.int .i64 0,.int .i64 0,.string ⟨#[100,111,99]⟩,.slice none 0 0,.slice none 0 0,.slice g8 n8 c8]) (by rw[X5 rfl];go_simp) rfl ?_
     have hfx:Ext (·=w.heap.size) w11 ((((((w11.setCell ⟨w.heap.size,0,none⟩ (.int .i64 0)).setCell ⟨w.heap.size,1,none⟩ (.int .i64 0)).setCell ⟨w.heap.size,2,none⟩ (.string ⟨#[100,111,99]⟩)).setCell ⟨w.heap.size,3,none⟩ (.slice none 0 0)).setCell ⟨w.heap.size,4,none⟩ (.slice none 0 0)).setCell ⟨w.heap.size,5,none⟩ (.slice g8 n8 c8)) :=
      ((((((Ext.refl (·=w.heap.size) w11).setCell (p:=⟨w.heap.size,0,none⟩) (.inr rfl) _).setCell (p:=⟨w.heap.size,1,none⟩) (.inr rfl) _).setCell (p:=⟨w.heap.size,2,none⟩) (.inr rfl) _).setCell (p:=⟨w.heap.size,3,none⟩) (.inr rfl) _).setCell (p:=⟨w.heap.size,4,none⟩) (.inr rfl) _).setCell (p:=⟨w.heap.size,5,none⟩) (.inr rfl) _
     have hbs5:=HB5.out.size
     have ho2:=HOWN.out.ext hfx (fun j hj e=>by have:=(HOWN.out.blk j hj).1;(try simp only at e);omega)
     refine ⟨⟨⟨0,0⟩,⟨#[100,111,99]⟩,Z2,Z2,⟨g8,n8,c8⟩⟩,rfl,D.length+1,fun A' hA'=>by rw[hA'.unique HDD.out];exact Nat.le_refl _,?_,Ext.new HB11.out hfx (fun i hi _ e=>by (try simp only at e);omega) HB11.out.size⟩
     unfold Vw.tree
     rw[HF0.out,if_neg HNF.out]
     refine Zr.make rfl rfl Yn Vq ((ho2.sliceD NdV.len).mono (fun j hj=>by have:=(ho2.blk j hj).1;omega)) ((HNS.out.ext hfx (fun j hj _ e=>by (try simp only at e);omega)).mono (fun j hj=>Nat.le_of_lt hj))
def VZ (base:Nat) (v:Value) (C:List Ch) (s:St) (w:World) (e:Ending) (w':World):Prop :=
 ∃ v',e=.returned v'∧Own Ch.cells 5 53 base w' v' (Yy C s)∧Ext (fun b=>v.ownBlock=some b) w w'
theorem Rr (va:Option Addr) (ca:Nat) (C:List Ch) (sn sr:Int) (base:Nat) (w:World) (hown:Own Ch.cells 5 53 base w (.slice va C.length ca) C) (hb:base≤w.heap.size) (hl:C.length≤100000) :
  Calls Tryz.prog 82 #[.slice va C.length ca,.agg #[.int .i64 sn,.int .i64 sr]] w fun e w'=>VZ base (.slice va C.length ca) C ⟨sn,sr⟩ w e w':=by
 have HOW:=Lib.hid hown
 have hfd:∀ W,Below w.heap.size w W→Calls Tryz.prog 22 #[.slice va C.length ca,.agg #[.int .i64 sn,.int .i64 sr]] W fun e w'=>e=.returned (.int .i64 (Yw C ⟨sn,sr⟩))∧Below W.heap.size W w':=fun W hW=>UA _ C sn sr W ((hown.ext (Ext.of_below (S:=fun _=>False) hW) (fun _ _ f=>f)).slice (fun _=>rfl)) (by omega)
 have HFD:=Lib.hid hfd
 have hB0:Below w.heap.size w (w.alloc (.cells #[.int .i64 sn,.int .i64 sr] 23)):=(Below.refl _ _).alloc (Nat.le_refl _) _
 have z0:(w.alloc (.cells #[.int .i64 sn,.int .i64 sr] 23)).cell? ⟨w.heap.size,0,none⟩=some (.int .i64 sn):=by go_simp
 have z1:(w.alloc (.cells #[.int .i64 sn,.int .i64 sr] 23)).cell? ⟨w.heap.size,1,none⟩=some (.int .i64 sr):=by go_simp
 have HB0:=Lib.hid hB0
 clear hfd hown hB0
 have same:∀ (e:Ending) (w':World),e=.returned (.slice va C.length ca)→Below w.heap.size w w'→(sn=0∧sr=0∨∃ c∈C,c.block=⟨sn,sr⟩)→VZ base (.slice va C.length ca) C ⟨sn,sr⟩ w e w':=fun e w' he hbw hc=>by
  refine ⟨_,he,?_,Ext.of_below hbw⟩
  unfold Yy
  rw[if_pos (hc.imp (fun h=>by rw[h.1,h.2]) id)]
  exact HOW.out.ext (Ext.of_below (S:=fun _=>False) hbw) (fun _ _ f=>f)
 have SAME:=Lib.hid same
 clear same
 by_cases h1:sn=0
 ·by_cases h2:sr=0
  ·subst h1
   subst h2
   go_enter Tryz.func82,Tryz.ntmps82
   go_upto_region 1 with fail
   generalize w.alloc (.cells #[.int .i64 0,.int .i64 0] 23)=w1 at *
   go_wp2_with fail
   go_ret
   exact SAME.out _ _ rfl HB0.out (.inl (by simp))
  ·subst h1
   have HNZ:Hid ((⟨0,sr⟩:St)≠⟨0,0⟩):=Jh (by intro e;cases e;exact h2 rfl)
   go_enter Tryz.func82,Tryz.ntmps82
   go_upto_region 1 with fail
   generalize w.alloc (.cells #[.int .i64 0,.int .i64 sr] 23)=w1 at *
   go_wp2_with fail
   refine (HFD.out w1 HB0.out).mono ?_
   rintro e w5 ⟨rfl,b5⟩
   cases hf:Xm C ⟨0,sr⟩ with
   | some i =>
    have hfi:Yw C ⟨0,sr⟩=(i:Int):=by unfold Yw;rw[hf]
    rw[hfi]
    have hi0:(0:Int)≤(i:Int):=by omega
    have HX:Hid (∃ c∈C,c.block=(⟨0,sr⟩:St)):=Jh (by obtain ⟨x,h1,h2,_⟩:=WC hf;exact ⟨x,List.mem_of_getElem? h1,h2⟩)
    clear hf hfi
    go_wp2_with fail
    go_ret
    exact SAME.out _ _ rfl (HB0.out.trans (b5.mono HB0.out.size)) (.inr HX.out)
   | none =>
    have hfi:Yw C ⟨0,sr⟩=-1:=by unfold Yw;rw[hf]
    rw[hfi]
    have HX:Hid (Yy C ⟨0,sr⟩=C++[ZD ⟨0,sr⟩]):=Jh (by
     unfold Yy
     rw[if_neg]
     rintro (h|⟨c,h1,h2⟩)
     ·exact HNZ.out (by simpa using h)
     ·exact XT.1 hf c h1 h2)
    have HB5:=Jh (HB0.out.trans (b5.mono HB0.out.size))
    have hz5:=HB5.out.size
    have HO5:=Jh (HOW.out.ext (Ext.of_below (S:=fun _=>False) HB5.out) (fun _ _ f=>f))
    have z0b:=Z0 b5 z0
    have z1b:=Z0 b5 z1
    obtain ⟨i0,hi,hz0,hz1,hz2⟩:=info_parts Xr
    clear hf hfi b5 z0 z1
    go_wp2_with (at_builtin;refine Zq (ea:=Ch.cells) (k:=5) rfl _ _ _ rfl i0 (.agg #[.int .i64 0,.int .i64 0,.int .i64 0,.int .i64 0,.string ⟨#[]⟩]) 48 Wa hi hz0 hz1 hz2 rfl (by omega) (fun _=>rfl) (fun x u hu=>by simp[Ch.cells] at hu;rcases hu with rfl|rfl|rfl|rfl|rfl <;> rfl) rfl (HO5.out.alloc _) (ZD ⟨0,sr⟩) w5.heap.size 1 rfl ?_ (by unfold maxLen;omega) (by omega) (by simp;omega) ?_)
    ·intro j u hj
     match j,hj with
     | 0,hj=>simp[ZD,Ch.cells] at hj;subst hj;go_simp
     | 1,hj=>simp[ZD,Ch.cells] at hj;subst hj;go_simp
     | 2,hj=>simp[ZD,Ch.cells] at hj;subst hj;go_simp
     | 3,hj=>simp[ZD,Ch.cells] at hj;subst hj;go_simp
     | 4,hj=>simp[ZD,Ch.cells] at hj;subst hj;go_simp
     | n+5,hj=>simp[Ch.cells] at hj
    ·intro v8 w8 hown8 hx8 hfr8
     have HF:Hid (VZ base (.slice va C.length ca) C ⟨0,sr⟩ w (.returned v8) w8):=Lib.hid ⟨_,rfl,by rw[HX.out];exact hown8,((Ext.of_below (S:=fun b=>(Value.slice va C.length ca).ownBlock=some b) HB5.out).alloc _).trans hx8⟩
     clear hown8 hx8 hfr8
     go_wp2_with fail
     go_ret
     exact HF.out
 ·have HNZ:Hid ((⟨sn,sr⟩:St)≠⟨0,0⟩):=Jh (by intro e;cases e;exact h1 rfl)
  go_enter Tryz.func82,Tryz.ntmps82
  go_upto_region 1 with fail
  generalize w.alloc (.cells #[.int .i64 sn,.int .i64 sr] 23)=w1 at *
  go_wp2_with fail
  refine (HFD.out w1 HB0.out).mono ?_
  rintro e w5 ⟨rfl,b5⟩
  cases hf:Xm C ⟨sn,sr⟩ with
  | some i =>
   have hfi:Yw C ⟨sn,sr⟩=(i:Int):=by unfold Yw;rw[hf]
   rw[hfi]
   have hi0:(0:Int)≤(i:Int):=by omega
   have HX:Hid (∃ c∈C,c.block=(⟨sn,sr⟩:St)):=Jh (by obtain ⟨x,h1,h2,_⟩:=WC hf;exact ⟨x,List.mem_of_getElem? h1,h2⟩)
   clear hf hfi
   go_wp2_with fail
   go_ret
   exact SAME.out _ _ rfl (HB0.out.trans (b5.mono HB0.out.size)) (.inr HX.out)
  | none =>
   have hfi:Yw C ⟨sn,sr⟩=-1:=by unfold Yw;rw[hf]
   rw[hfi]
   have HX:Hid (Yy C ⟨sn,sr⟩=C++[ZD ⟨sn,sr⟩]):=Jh (by
    unfold Yy
    rw[if_neg]
    rintro (h|⟨c,h1,h2⟩)
    ·exact HNZ.out (by simpa using h)
    ·exact XT.1 hf c h1 h2)
   have HB5:=Jh (HB0.out.trans (b5.mono HB0.out.size))
   have hz5:=HB5.out.size
   have HO5:=Jh (HOW.out.ext (Ext.of_below (S:=fun _=>False) HB5.out) (fun _ _ f=>f))
   have z0b:=Z0 b5 z0
   have z1b:=Z0 b5 z1
   obtain ⟨i0,hi,hz0,hz1,hz2⟩:=info_parts Xr
   clear hf hfi b5 z0 z1
   go_wp2_with (at_builtin;refine Zq (ea:=Ch.cells) (k:=5) rfl _ _ _ rfl i0 (.agg #[.int .i64 0,.int .i64 0,.int .i64 0,.int .i64 0,.string ⟨#[]⟩]) 48 Wa hi hz0 hz1 hz2 rfl (by omega) (fun _=>rfl) (fun x u hu=>by simp[Ch.cells] at hu;rcases hu with rfl|rfl|rfl|rfl|rfl <;> rfl) rfl (HO5.out.alloc _) (ZD ⟨sn,sr⟩) w5.heap.size 1 rfl ?_ (by unfold maxLen;omega) (by omega) (by simp;omega) ?_)
   ·intro j u hj
    match j,hj with
    | 0,hj=>simp[ZD,Ch.cells] at hj;subst hj;go_simp
    | 1,hj=>simp[ZD,Ch.cells] at hj;subst hj;go_simp
    | 2,hj=>simp[ZD,Ch.cells] at hj;subst hj;go_simp
    | 3,hj=>simp[ZD,Ch.cells] at hj;subst hj;go_simp
    | 4,hj=>simp[ZD,Ch.cells] at hj;subst hj;go_simp
    | n+5,hj=>simp[Ch.cells] at hj
   ·intro v8 w8 hown8 hx8 hfr8
    have HF:Hid (VZ base (.slice va C.length ca) C ⟨sn,sr⟩ w (.returned v8) w8):=Lib.hid ⟨_,rfl,by rw[HX.out];exact hown8,((Ext.of_below (S:=fun b=>(Value.slice va C.length ca).ownBlock=some b) HB5.out).alloc _).trans hx8⟩
    clear hown8 hx8 hfr8
    go_wp2_with fail
    go_ret
    exact HF.out
theorem Z1r {α:Type} {ea:α→List Value} {k:Nat} {e:TypeId} (w:World):Own ea k e w.heap.size (w.alloc (.cells #[] e)) (.slice (some ⟨w.heap.size,0,none⟩) 0 0) [] :=
 ⟨by simp,.inr ⟨w.heap.size,0,#[],rfl,Nat.le_refl _,World.alloc_heap_new w _,Nat.le_refl _,Nat.zero_le _,by simp,by simp⟩⟩
def Got (l:List El) (A:List Ch) (k m:Nat) (s:St):Prop:=(∃ j x,j<k∧l[j]?=some x∧Yb x=true∧x.id=s)∨∃ j d,j<m∧A[j]?=some d∧d.under=s
theorem Z2y {l:List El} {A:List Ch} {s:St}:Got l A l.length A.length s↔(X2 l s=true∨∃ d∈A,d.under=s):=by
 unfold Got
 refine or_congr ⟨?_,?_⟩ ⟨?_,?_⟩
 ·rintro ⟨j,x,_,h1,h2,h3⟩;exact WY.2 ⟨x,List.mem_of_getElem? h1,h2,h3⟩
 ·intro h
  obtain ⟨x,h1,h2,h3⟩:=WY.1 h
  obtain ⟨j,hj⟩:=List.getElem?_of_mem h1
  exact ⟨j,x,(List.getElem?_eq_some_iff.1 hj).1,hj,h2,h3⟩
 ·rintro ⟨j,d,_,h1,h2⟩;exact ⟨d,List.mem_of_getElem? h1,h2⟩
 ·rintro ⟨d,h1,h2⟩
  obtain ⟨j,hj⟩:=List.getElem?_of_mem h1
  exact ⟨j,d,(List.getElem?_eq_some_iff.1 hj).1,hj,h2⟩
theorem Z2h {l:List El} {A:List Ch} {s:St}:Got l A 0 0 s↔False:=by
 unfold Got
 constructor
 ·rintro (⟨j,_,h,_⟩|⟨j,_,h,_⟩) <;> omega
 ·exact False.elim
theorem Z1j {l:List El} {A:List Ch} {k m:Nat} {x:El} (hx:l[k]?=some x) {s:St}:Got l A (k+1) m s↔(Got l A k m s∨(Yb x=true∧x.id=s)):=by
 unfold Got
 constructor
 ·rintro (⟨j,y,h1,h2,h3,h4⟩|h)
  ·by_cases e:j=k
   ·subst e;rw[hx] at h2;cases h2;exact .inr ⟨h3,h4⟩
   ·exact .inl (.inl ⟨j,y,by omega,h2,h3,h4⟩)
  ·exact .inl (.inr h)
 ·rintro ((⟨j,y,h1,h2⟩|h)|⟨h1,h2⟩)
  ·exact .inl ⟨j,y,by omega,h2⟩
  ·exact .inr h
  ·exact .inl ⟨k,x,by omega,hx,h1,h2⟩
theorem Z3r {l:List El} {A:List Ch} {k m:Nat} {d:Ch} (hd:A[m]?=some d) {s:St}:Got l A k (m+1) s↔(Got l A k m s∨s=d.under):=by
 unfold Got
 constructor
 ·rintro (h|⟨j,y,h1,h2,h3⟩)
  ·exact .inl (.inl h)
  ·by_cases e:j=m
   ·subst e;rw[hd] at h2;cases h2;exact .inr h3.symm
   ·exact .inl (.inr ⟨j,y,by omega,h2,h3⟩)
 ·rintro ((h|⟨j,y,h1,h2⟩)|h)
  ·exact .inl h
  ·exact .inr ⟨j,y,by omega,h2⟩
  ·exact .inr ⟨m,d,by omega,hd,h.symm⟩
def Wd (w:World) (l:List El) (A:List Ch) (k m:Nat) (v:Value) (C:List Ch) (W:World):Prop :=
 Own Ch.cells 5 53 w.heap.size W v C∧Gth A (Got l A k m) C∧C.length≤A.length+(k+m)∧Below w.heap.size w W
theorem Z4.ecells20 {w:World} {v:Value} {l:List El} (h:Z4 El.cells 4 w v l) (hne:l≠[]):∃ b o cap,v=.slice (some ⟨b,o,none⟩) l.length cap∧∀ i (x:El),l[i]?=some x →
  w.cell? ⟨b,o+i*4,none⟩=some (.int .i64 x.id.n)∧w.cell? ⟨b,o+i*4+1,none⟩=some (.int .i64 x.id.r)∧w.cell? ⟨b,o+i*4+2,none⟩=some (.int .i64 x.ch)∧w.cell? ⟨b,o+i*4+3,none⟩=some (.bool x.gone):=by
 obtain ⟨a,cap,rfl,_,_,h4⟩:=h
 obtain ⟨b,o,rfl,h6⟩:=h4 hne
 exact ⟨b,o,cap,rfl,fun i x hi=>⟨h6 i x hi 0 _ rfl,h6 i x hi 1 _ rfl,h6 i x hi 2 _ rfl,h6 i x hi 3 _ rfl⟩⟩
theorem Wd.skip {w W:World} {l:List El} {A C:List Ch} {k m:Nat} {v:Value} {x:El} (h:Wd w l A k m v C W) (hx:l[k]?=some x) (hb:Yb x=false):Wd w l A (k+1) m v C W :=
 ⟨h.1,h.2.1.mono (fun s=>by rw[Z1j hx,hb];simp),by have:=h.2.2.1;omega,h.2.2.2⟩
theorem Wd.el {w W W':World} {l:List El} {A C:List Ch} {k m:Nat} {v v':Value} {x:El} (h:Wd w l A k m v C W) (hx:l[k]?=some x) (hb:Yb x=true) (ho:Own Ch.cells 5 53 w.heap.size W' v' (Yy C x.id)) (he:Ext (fun b=>v.ownBlock=some b) W W'):Wd w l A (k+1) m v' (Yy C x.id) W' :=
 ⟨ho,(h.2.1.more x.id).mono (fun s=>by rw[Z1j hx,hb];simp[eq_comm]),by have:=h.2.2.1;have:=Vy C x.id;omega,Ext.new h.2.2.2 he (fun i hi _ e=>by have:=(h.1.blk i e).1;omega) h.2.2.2.size⟩
theorem Wd.ch {w W W':World} {l:List El} {A C:List Ch} {k m:Nat} {v v':Value} {d:Ch} (h:Wd w l A k m v C W) (hd:A[m]?=some d) (ho:Own Ch.cells 5 53 w.heap.size W' v' (Yy C d.under)) (he:Ext (fun b=>v.ownBlock=some b) W W'):Wd w l A k (m+1) v' (Yy C d.under) W' :=
 ⟨ho,(h.2.1.more d.under).mono (fun s=>by rw[Z3r hd]),by have:=h.2.2.1;have:=Vy C d.under;omega,Ext.new h.2.2.2 he (fun i hi _ e=>by have:=(h.1.blk i e).1;omega) h.2.2.2.size⟩
def Rq (l:List El) (h:Zi) (A:List Ch) (w:World) (e:Ending) (w':World):Prop :=
 ∃ v D,e=.returned v∧Own Ch.cells 5 53 w.heap.size w' v D∧Zm (Y2 l h A) D∧D.length≤A.length+(l.length+A.length)∧Below w.heap.size w w'
theorem Z1Q {α:Type} {ys R:List α} {j:Nat} (p q:α) (hj:j<ys.length):YG (ys++R) j p q=YG ys j p q++R:=by
 unfold YG
 rw[List.set_append_left _ _ hj,List.set_append_left _ _ (by rw[List.length_set];omega)]
theorem Z0A {zs C ys:List Ch} {i:Nat} {x:Ch} (hp:zs.Perm C) (hx:zs[i]?=some x) (hy:ys.Perm (zs.take i++[x])) (hl:ys.length=i+1) (hs:ys.Pairwise BLt):(ys++zs.drop (i+1)).Perm C∧((ys++zs.drop (i+1)).take (i+1)).Pairwise BLt:=by
 refine ⟨?_,by rw[←hl,List.take_left];exact hs⟩
 have h1:zs.take i++[x]=zs.take (i+1):=by rw[List.take_add_one,hx];rfl
 rw[h1] at hy
 have:=hy.append_right (zs.drop (i+1))
 rw[List.take_append_drop] at this
 exact this.trans hp
theorem Qf {l:List El} {h:Zi} {A C zs:List Ch} {w W:World} {v:Value} (hA:Zm h A) (hk:ZV h) (g:Gth A (Got l A l.length A.length) C) (hc:C.length≤A.length+(l.length+A.length)) (hp:zs.Perm C) (hs:(zs.take C.length).Pairwise BLt) (ho:Own Ch.cells 5 53 w.heap.size W v zs) (hb:Below w.heap.size w W):Rq l h A w (.returned v) W:=by
 rw[←hp.length_eq,List.take_length] at hs
 exact ⟨v,zs,rfl,ho,(g.mono (fun s=>Z2y)).allOf hA hk hp hs,by rw[hp.length_eq];exact hc,hb⟩
theorem QW (va vk:Option Addr) (ca ck:Nat) (l:List El) (A:List Ch) (h:Zi) (w:World) (hl:Z4 El.cells 4 w (.slice va l.length ca) l) (hln:l.length≤1000) (hv:Z4 Ch.cells 5 w (.slice vk A.length ck) A) (hAl:A.length≤1000) (hA:Zm h A) (hk:ZV h) :
  Calls Tryz.prog 53 #[.slice va l.length ca,.slice vk A.length ck] w fun e w'=>Rq l h A w e w':=by
 obtain ⟨i0,hi,hz0,hz1,hz2⟩:=info_parts Xr
 have HL:=Lib.hid hl
 have HV:=Lib.hid hv
 have HA:=Jh (And.intro hA hk)
 clear hl hv hA hk
 go_enter Tryz.func53,Tryz.ntmps53
 have hlit:=Z1r (ea:=Ch.cells) (k:=5) (e:=53) w
 obtain ⟨v2,w2,hr2,hown2,hx2⟩:=Sb (P:=Tryz.prog) (ea:=Ch.cells) 48 48 i0 (.agg #[.int .i64 0,.int .i64 0,.int .i64 0,.int .i64 0,.string ⟨#[]⟩]) 48 Wa hi hz0 hz1 hz2 rfl (by omega) (fun _=>rfl) (fun x u hu=>by simp[Ch.cells] at hu;rcases hu with rfl|rfl|rfl|rfl|rfl <;> rfl) hlit (HV.out.below ((Below.refl w.heap.size w).alloc (Nat.le_refl _) (.cells #[] 53))) (by unfold maxLen;simp;omega) (by simp;omega) (by simp)
 rw[List.nil_append] at hown2
 have hb2:Below w.heap.size w w2:=Ext.new ((Below.refl w.heap.size w).alloc (Nat.le_refl _) (.cells #[] 53)) hx2 (fun i hi _ e=>by simp[Value.ownBlock] at e;omega) (by simp)
 have hnd:A.Pairwise (fun a b=>a.block≠b.block):=HA.out.1.2.imp (fun {a b} h e=>by rw[e] at h;exact Zl _ h)
 have HG0:Hid (Wd w l A 0 0 v2 A w2):=Lib.hid ⟨hown2,(Gth.start hnd).mono (fun s=>Z2h.symm),by omega,hb2⟩
 clear hlit hown2 hx2 hb2 hnd
 obtain ⟨_,_,e0,hca,hcm,-⟩:=HL.out
 cases e0
 obtain ⟨_,_,e0,hcka,hckm,-⟩:=HV.out
 cases e0
 unfold maxLen at hcm hckm
 go_wp2_with (at_builtin;refine Lib.wpList_append_run _ rfl _ _ _ _ rfl _ _ rfl rfl _ _ hr2 ?_)
 clear hr2
 go_wp2_with fail
 go_loopg [5,6] l.length (fun g ov iv wx=>∃ (k:Nat) (s:Sl) (C:List Ch),g=l.length - k∧k≤l.length∧iv=.int .i64 k∧ov=.slice s.a C.length s.cap∧Hid (Wd w l A k 0 ov C wx))
 case atStart =>
  obtain ⟨a3,c3,e3,-,-,-⟩:=(HG0.out.1).slice (fun _=>rfl)
  exact ⟨0,⟨a3,0,c3⟩,A,rfl,Nat.zero_le _,rfl,e3,HG0⟩
 case round =>
  obtain ⟨k,s,C,hg,hk,rfl,rfl,HGI⟩:=hrel
  have HG:=Lib.hid hg
  clear hg
  have hcl:=HGI.out.2.2.1
  by_cases hlt:k<l.length
  ·obtain ⟨x,hx⟩:∃ x,l[k]?=some x:=⟨_,List.getElem?_eq_getElem hlt⟩
   have hkk:(k:Int)<(l.length:Int):=by omega
   have hk0:(0:Int)≤(k:Int):=by omega
   have hwz:=HGI.out.2.2.2.size
   obtain ⟨ba,oa,ca1,e1,hcs⟩:=(HL.out.below HGI.out.2.2.2).ecells20 (by intro e;rw[e] at hlt;simp at hlt)
   cases e1
   obtain ⟨y0,y1,y2,y3⟩:=hcs k _ hx
   have HXX:=Lib.hid hx
   obtain ⟨⟨xn,xr⟩,xc,xg⟩:=x
   simp only at y0 y1 y2 y3
   clear hx hcs
   by_cases hc:xc=0
   ·subst hc
    cases xg with
    | false =>
     go_wp2_with fail
     refine (Rr s.a s.cap C xn xr w.heap.size wr HGI.out.1 hwz (by omega)).mono ?_
     rintro e w5 ⟨v5,rfl,ho5,hx5⟩
     have HGN:=Jh (HGI.out.el HXX.out rfl ho5 hx5)
     obtain ⟨a5,c5,rfl,-,-,-⟩:=ho5.slice (fun _=>rfl)
     clear ho5 hx5 y0 y1 y2 y3
     go_wp2_with fail
     go_roundg (l.length - (k+1))
     case measure=>rw[HG.out];omega
     case rel=>exact ⟨k+1,⟨a5,0,c5⟩,_,rfl,hlt,by go_num,rfl,HGN⟩
    | true =>
     have HGN:=Jh (HGI.out.skip HXX.out (by simp[Yb]))
     clear HXX
     go_wp2_with fail
     go_roundg (l.length - (k+1))
     case measure=>rw[HG.out];omega
     case rel=>exact ⟨k+1,s,C,rfl,hlt,by go_num,rfl,HGN⟩
   ·have HGN:=Jh (HGI.out.skip HXX.out (by simp[Yb,hc]))
    clear HXX
    go_wp2_with fail
    go_roundg (l.length - (k+1))
    case measure=>rw[HG.out];omega
    case rel=>exact ⟨k+1,s,C,rfl,hlt,by go_num,rfl,HGN⟩
  ·obtain rfl:k=l.length:=by omega
   have hkk:¬ (l.length:Int)<(l.length:Int):=by omega
   have HG1:=HGI
   clear hlt hk HGI hcl
   go_wp2_with fail
   go_loopg [5,7] A.length (fun g ov iv wx=>∃ (k:Nat) (s:Sl) (C:List Ch),g=A.length - k∧k≤A.length∧iv=.int .i64 k∧ov=.slice s.a C.length s.cap∧Hid (Wd w l A l.length k ov C wx))
   case atStart=>exact ⟨0,s,C,rfl,Nat.zero_le _,rfl,rfl,HG1⟩
   case round =>
    obtain ⟨k,s,C,hg,hk,rfl,rfl,HGI⟩:=hrel
    have HG:=Lib.hid hg
    clear hg
    have hcl:=HGI.out.2.2.1
    have hwz:=HGI.out.2.2.2.size
    by_cases hlt:k<A.length
    ·obtain ⟨x,hx⟩:∃ x,A[k]?=some x:=⟨_,List.getElem?_eq_getElem hlt⟩
     have hkk:(k:Int)<(A.length:Int):=by omega
     have hk0:(0:Int)≤(k:Int):=by omega
     obtain ⟨ba,oa,ca1,e1,hcs⟩:=(HV.out.below HGI.out.2.2.2).dcells (by intro e;rw[e] at hlt;simp at hlt)
     cases e1
     obtain ⟨y0,y1,y2,y3,y4⟩:=hcs k _ hx
     have HXX:=Lib.hid hx
     obtain ⟨xb,⟨un,ur⟩,xk⟩:=x
     simp only at y0 y1 y2 y3 y4
     clear hx hcs
     go_wp2_with fail
     refine (Rr s.a s.cap C un ur w.heap.size wr HGI.out.1 hwz (by omega)).mono ?_
     rintro e w5 ⟨v5,rfl,ho5,hx5⟩
     have HGN:=Jh (HGI.out.ch HXX.out ho5 hx5)
     obtain ⟨a5,c5,rfl,-,-,-⟩:=ho5.slice (fun _=>rfl)
     clear ho5 hx5 y0 y1 y2 y3 y4
     go_wp2_with fail
     go_roundg (A.length - (k+1))
     case measure=>rw[HG.out];omega
     case rel=>exact ⟨k+1,⟨a5,0,c5⟩,_,rfl,hlt,by go_num,rfl,HGN⟩
    ·obtain rfl:k=A.length:=by omega
     have hkk:¬ (A.length:Int)<(A.length:Int):=by omega
     have HG2:=HGI
     clear hlt hk HGI HG1
     go_wp2_with fail
     have hw2:=HG2.out.2.2.2.size
     have hCl:C.length≤3000:=by have:=HG2.out.2.2.1;omega
     have HCL:=Lib.hid HG2.out.2.2.1
     obtain ⟨sa,sn,sc⟩:=s
     simp only at HG2 ⊢
     have hnb:C.Pairwise (fun a b=>a.block≠b.block):=HG2.out.2.1.nodup
     have HNB:=Lib.hid hnb
     clear hnb
     have HGT:=Lib.hid HG2.out.2.1
     obtain ⟨_,_,e0,hcq,hcqm,-⟩:=(HG2.out.1).slice (fun _=>rfl)
     cases e0
     unfold maxLen at hcqm
     go_loopg [8] C.length (fun g iv wx=>∃ (i:Nat) (zs:List Ch),g=C.length+1 - i∧1≤i∧i≤C.length+1∧iv=.int .i64 i∧Hid (zs.Perm C∧(zs.take i).Pairwise BLt∧Own Ch.cells 5 53 w.heap.size wx (.slice sa C.length sc) zs∧Below w.heap.size w wx))
     case atStart=>exact ⟨1,C,by omega,Nat.le_refl _,by omega,rfl,Lib.hid ⟨List.Perm.refl _,by cases C with|nil=>exact List.Pairwise.nil|cons a r=>simp,HG2.out.1,HG2.out.2.2.2⟩⟩
     case round =>
      obtain ⟨i,zs0,hg,hi1,hi2,rfl,HZ⟩:=hrel
      have HGG:=Lib.hid hg
      clear hg HG2
      by_cases hlt:i<C.length
      ·obtain ⟨x,hx⟩:∃ x,zs0[i]?=some x:=⟨_,List.getElem?_eq_getElem (by rw[HZ.out.1.length_eq];exact hlt)⟩
       obtain ⟨g3,rfl⟩:∃ g,sa=some ⟨g,0,none⟩:=by
        rcases HZ.out.2.2.1.eq_slice with ⟨_,e⟩|⟨g,c,e,_⟩
        ·have:=HZ.out.1.length_eq;rw[e,List.length_nil] at this;omega
        ·simp only[Value.slice.injEq] at e;exact ⟨g,e.1⟩
       have hkk:(i:Int)<(C.length:Int):=by omega
       have hS:(zs0.take i).length=i:=by rw[List.length_take,HZ.out.1.length_eq];omega
       have HSS:=Jh (And.intro hx hS)
       have hin0:=Vb HZ.out.2.1 x
       rw[hS] at hin0
       have hzs:zs0.take i++[x]++zs0.drop (i+1)=zs0:=by
        rw[show zs0.take i++[x]=zs0.take (i+1) by rw[List.take_add_one,hx];rfl,List.take_append_drop]
       have HI0:Hid (W5 BLt (zs0.take i++[x]) (zs0.take i++[x]) i∧Own Ch.cells 5 53 w.heap.size wr (.slice (some ⟨g3,0,none⟩) C.length sc) (zs0.take i++[x]++zs0.drop (i+1))∧Below w.heap.size w wr):=Lib.hid ⟨hin0,by rw[hzs];exact HZ.out.2.2.1,HZ.out.2.2.2⟩
       clear hx hS hin0 hzs
       go_wp2_with fail
       go_loopg [9] i (fun g jv wr=>∃ (j:Nat) (ys:List Ch),g=j∧j≤i∧jv=.int .i64 j∧ys.length=i+1∧Hid (ys[j]?=some x)∧Hid (W5 BLt (zs0.take i++[x]) ys j∧Own Ch.cells 5 53 w.heap.size wr (.slice (some ⟨g3,0,none⟩) C.length sc) (ys++zs0.drop (i+1))∧Below w.heap.size w wr))
       case atStart=>exact ⟨i,_,rfl,Nat.le_refl _,rfl,by rw[List.length_append,HSS.out.2];rfl,Jh (by rw[List.getElem?_append_right (by rw[HSS.out.2];omega),HSS.out.2,Nat.sub_self];rfl),HI0⟩
       case round =>
        obtain ⟨j,ys,hg,hj,rfl,hyl,hyx,hV⟩:=hrel
        have HGJ:=Lib.hid hg
        clear hg
        obtain ⟨zs,hzs⟩:=Je (ys++zs0.drop (i+1))
        have hzl:zs.length=C.length:=by rw[←hzs,List.length_append,hyl,List.length_drop,HZ.out.1.length_eq];omega
        have HZS:=Lib.hid hzs
        have hdone:∀ W,Below wr.heap.size wr W→ys.Pairwise BLt→Hid (zs.Perm C∧(zs.take (i+1)).Pairwise BLt∧Own Ch.cells 5 53 w.heap.size W (.slice (some ⟨g3,0,none⟩) C.length sc) zs∧Below w.heap.size w W):=fun W hW h=>Jh (by
         have h1:=Z0A HZ.out.1 HSS.out.1 hV.out.1.perm hyl h
         rw[HZS.out] at h1
         have h2:=hV.out.2.1
         rw[HZS.out] at h2
         exact ⟨h1.1,h1.2,h2.ext (Ext.of_below (S:=fun _=>False) hW) (fun _ _ f=>f),hV.out.2.2.trans (hW.mono hV.out.2.2.size)⟩)
        clear hzs
        by_cases hj0:0<j
        ·obtain ⟨p,hp⟩:∃ p,ys[j]?=some p:=⟨_,List.getElem?_eq_getElem (by omega)⟩
         obtain ⟨q,hq⟩:∃ q,ys[j - 1]?=some q:=⟨_,List.getElem?_eq_getElem (by omega)⟩
         have hpz:zs[j]?=some p:=by rw[←HZS.out,List.getElem?_append_left (by omega)];exact hp
         have hqz:zs[j - 1]?=some q:=by rw[←HZS.out,List.getElem?_append_left (by omega)];exact hq
         have ho:=hV.out.2.1
         rw[HZS.out] at ho
         have p0:=ho.cellI (j:=0) Ch.len hpz rfl
         have p1:=ho.cellI (j:=1) Ch.len hpz rfl
         have q0:=ho.cellI (j:=0) Ch.len hqz rfl
         have q1:=ho.cellI (j:=1) Ch.len hqz rfl
         simp only[Nat.add_zero] at p0 q0
         have hj1:(0:Int)<(j:Int):=by omega
         have HPQ:=Jh (And.intro hpz hqz)
         have HPY:=Jh (And.intro hp hq)
         have hcm:=X1 p.block.n p.block.r q.block.n q.block.r
         obtain ⟨cv,hcv⟩:=Je (Yc ⟨p.block.n,p.block.r⟩ ⟨q.block.n,q.block.r⟩)
         rw[hcv] at hcm
         have HCM:=Lib.hid hcm
         have hvv:=Wm p.block q.block
         rw[show Yc p.block q.block=cv from hcv] at hvv
         have HVV:=Lib.hid hvv
         have hja:(0:Int)≤(j:Int):=by omega
         have hjb:(j:Int)<(C.length:Int):=by omega
         obtain ⟨jq,hjq⟩:∃ jq:Nat,j - 1=jq:=⟨_,rfl⟩
         rw[hjq] at q0 q1
         have hjc:(0:Int)≤(jq:Int):=by omega
         have hjd:(jq:Int)<(C.length:Int):=by omega
         have hje:IntKind.i64.wrap ((j:Int) - 1)=(jq:Int):=by rw[show (j:Int) - 1=(jq:Int) by omega];exact IntWalk.i64_in _ (by omega)
         have HJQ:=Lib.hid hjq
         clear hjq ho hp hq hcm hcv hvv hpz hqz
         go_upto_region 15 with fail
         go_region_held3 (fun W=>W.cell? ⟨g3,j*5,none⟩=some (.int .i64 p.block.n)∧W.cell? ⟨g3,j*5+1,none⟩=some (.int .i64 p.block.r)∧W.cell? ⟨g3,jq*5,none⟩=some (.int .i64 q.block.n)∧W.cell? ⟨g3,jq*5+1,none⟩=some (.int .i64 q.block.r)) (first|exact ⟨p0,p1,q0,q1⟩|exact ⟨Z0 b5 p0,Z0 b5 p1,Z0 b5 q0,Z0 b5 q1⟩) (first|(go_at_call 23;((with_reducible refine (HCM.out _).mono ?_);rintro e w5 ⟨rfl,b5⟩;simp only[ZR,ZJ] at b5)))
         have HB5:=Lib.hid b5
         clear b5 p0 p1 q0 q1 hja hjb hjc hjd hje
         have hjz:((j - 1:Nat):Int)=(j:Int) - 1:=by omega
         by_cases hlt2:cv<0
         ·have HSW:=Jh (hV.out.1.swap hj0 HPY.out.1 HPY.out.2 (HVV.out.1 hlt2))
          have ho:=hV.out.2.1.ext (Ext.of_below (S:=fun _=>False) HB5.out) (fun _ _ h=>h)
          rw[HZS.out] at ho
          have hbx:=hV.out.2.2.trans (HB5.out.mono hV.out.2.2.size)
          clear hV hdone HCM HVV HB5
          have p0:=ho.cellI (j:=0) Ch.len HPQ.out.1 rfl
          have p1:=ho.cellI (j:=1) Ch.len HPQ.out.1 rfl
          have p2:=ho.cellI (j:=2) Ch.len HPQ.out.1 rfl
          have p3:=ho.cellI (j:=3) Ch.len HPQ.out.1 rfl
          have p4:=ho.cellI (j:=4) Ch.len HPQ.out.1 rfl
          simp only[Nat.add_zero] at p0
          have hgb:=ho.blk g3 rfl
          have hoy:=ho.alloc (.cells #[.int .i64 p.block.n,.int .i64 p.block.r,.int .i64 p.under.n,.int .i64 p.under.r,.string p.key] 53)
          have hby:=hbx.alloc hbx.size (.cells #[.int .i64 p.block.n,.int .i64 p.block.r,.int .i64 p.under.n,.int .i64 p.under.r,.string p.key] 53)
          have z0:(w5.alloc (.cells #[.int .i64 p.block.n,.int .i64 p.block.r,.int .i64 p.under.n,.int .i64 p.under.r,.string p.key] 53)).cell? ⟨w5.heap.size,0,none⟩=some (.int .i64 p.block.n):=by go_simp
          have z1:(w5.alloc (.cells #[.int .i64 p.block.n,.int .i64 p.block.r,.int .i64 p.under.n,.int .i64 p.under.r,.string p.key] 53)).cell? ⟨w5.heap.size,1,none⟩=some (.int .i64 p.block.r):=by go_simp
          have z2:(w5.alloc (.cells #[.int .i64 p.block.n,.int .i64 p.block.r,.int .i64 p.under.n,.int .i64 p.under.r,.string p.key] 53)).cell? ⟨w5.heap.size,2,none⟩=some (.int .i64 p.under.n):=by go_simp
          have z3:(w5.alloc (.cells #[.int .i64 p.block.n,.int .i64 p.block.r,.int .i64 p.under.n,.int .i64 p.under.r,.string p.key] 53)).cell? ⟨w5.heap.size,3,none⟩=some (.int .i64 p.under.r):=by go_simp
          have z4:(w5.alloc (.cells #[.int .i64 p.block.n,.int .i64 p.block.r,.int .i64 p.under.n,.int .i64 p.under.r,.string p.key] 53)).cell? ⟨w5.heap.size,4,none⟩=some (.string p.key):=by go_simp
          have HOY:=Jh (And.intro hoy hby)
          clear hoy hby
          go_upto_region 18 with fail
          generalize w5.alloc (.cells #[.int .i64 p.block.n,.int .i64 p.block.r,.int .i64 p.under.n,.int .i64 p.under.r,.string p.key] 53)=wy at *
          clear p0 p1 p2 p3 p4
          obtain ⟨hoy,hby⟩:=HOY.out
          have q0:=hoy.cellI (j:=0) Ch.len HPQ.out.2 rfl
          have f0:=hoy.freeI (j*5)
          have r0:=hoy.cellI (j:=0) Ch.len HPQ.out.1 rfl
          have q1:=hoy.cellI (j:=1) Ch.len HPQ.out.2 rfl
          have f1:=hoy.freeI (j*5+1)
          have r1:=hoy.cellI (j:=1) Ch.len HPQ.out.1 rfl
          have q2:=hoy.cellI (j:=2) Ch.len HPQ.out.2 rfl
          have f2:=hoy.freeI (j*5+2)
          have r2:=hoy.cellI (j:=2) Ch.len HPQ.out.1 rfl
          have q3:=hoy.cellI (j:=3) Ch.len HPQ.out.2 rfl
          have f3:=hoy.freeI (j*5+3)
          have r3:=hoy.cellI (j:=3) Ch.len HPQ.out.1 rfl
          have q4:=hoy.cellI (j:=4) Ch.len HPQ.out.2 rfl
          have f4:=hoy.freeI (j*5+4)
          have r4:=hoy.cellI (j:=4) Ch.len HPQ.out.1 rfl
          simp only[Nat.add_zero] at q0 r0
          have ho1:Own Ch.cells 5 53 w.heap.size (((((wy.setCell ⟨g3,j*5,none⟩ (.int .i64 q.block.n)).setCell ⟨g3,j*5+1,none⟩ (.int .i64 q.block.r)).setCell ⟨g3,j*5+2,none⟩ (.int .i64 q.under.n)).setCell ⟨g3,j*5+3,none⟩ (.int .i64 q.under.r)).setCell ⟨g3,j*5+4,none⟩ (.string q.key)) (.slice (some ⟨g3,0,none⟩) C.length sc) (zs.set j q):=X9 (y:=q) Ch.len (by omega) hzl hoy HPQ.out.1
          have hb1:Below w.heap.size _ (((((wy.setCell ⟨g3,j*5,none⟩ (.int .i64 q.block.n)).setCell ⟨g3,j*5+1,none⟩ (.int .i64 q.block.r)).setCell ⟨g3,j*5+2,none⟩ (.int .i64 q.under.n)).setCell ⟨g3,j*5+3,none⟩ (.int .i64 q.under.r)).setCell ⟨g3,j*5+4,none⟩ (.string q.key)):=(((((hby.setCell hgb.1 _).setCell hgb.1 _).setCell hgb.1 _).setCell hgb.1 _).setCell hgb.1 _)
          have hx1:Ext (·=g3) wy (((((wy.setCell ⟨g3,j*5,none⟩ (.int .i64 q.block.n)).setCell ⟨g3,j*5+1,none⟩ (.int .i64 q.block.r)).setCell ⟨g3,j*5+2,none⟩ (.int .i64 q.under.n)).setCell ⟨g3,j*5+3,none⟩ (.int .i64 q.under.r)).setCell ⟨g3,j*5+4,none⟩ (.string q.key)):=YW (o:=j*5) (Ch.cells q) 0 wy
          have hne:¬ w5.heap.size=g3:=by omega
          replace z0:=hx1.keep z0 hne
          replace z1:=hx1.keep z1 hne
          replace z2:=hx1.keep z2 hne
          replace z3:=hx1.keep z3 hne
          replace z4:=hx1.keep z4 hne
          have HO1:=Jh (And.intro ho1 hb1)
          clear ho1 hb1 hx1 hoy hby HOY
          have HZ0:=Lib.hid z0
          have HZ1:=Lib.hid z1
          have HZ2:=Lib.hid z2
          have HZ3:=Lib.hid z3
          have HZ4:=Lib.hid z4
          clear z0 z1 z2 z3 z4
          go_upto_region 19 with fail
          generalize (((((wy.setCell ⟨g3,j*5,none⟩ (.int .i64 q.block.n)).setCell ⟨g3,j*5+1,none⟩ (.int .i64 q.block.r)).setCell ⟨g3,j*5+2,none⟩ (.int .i64 q.under.n)).setCell ⟨g3,j*5+3,none⟩ (.int .i64 q.under.r)).setCell ⟨g3,j*5+4,none⟩ (.string q.key))=wz at *
          clear q0 f0 r0 q1 f1 r1 q2 f2 r2 q3 f3 r3 q4 f4 r4
          obtain ⟨ho1,hb1⟩:=HO1.out
          have z0:=HZ0.out
          have z1:=HZ1.out
          have z2:=HZ2.out
          have z3:=HZ3.out
          have z4:=HZ4.out
          have f0:=ho1.freeI ((j - 1)*5)
          have f1:=ho1.freeI ((j - 1)*5+1)
          have f2:=ho1.freeI ((j - 1)*5+2)
          have f3:=ho1.freeI ((j - 1)*5+3)
          have f4:=ho1.freeI ((j - 1)*5+4)
          have hq1:(zs.set j q)[j - 1]?=some q:=by rw[List.getElem?_set,if_neg (by omega)];exact HPQ.out.2
          have e0:=ho1.cellI (j:=0) Ch.len hq1 rfl
          have e1:=ho1.cellI (j:=1) Ch.len hq1 rfl
          have e2:=ho1.cellI (j:=2) Ch.len hq1 rfl
          have e3:=ho1.cellI (j:=3) Ch.len hq1 rfl
          have e4:=ho1.cellI (j:=4) Ch.len hq1 rfl
          simp only[Nat.add_zero] at e0
          have ho2:Own Ch.cells 5 53 w.heap.size (((((wz.setCell ⟨g3,(j - 1)*5,none⟩ (.int .i64 p.block.n)).setCell ⟨g3,(j - 1)*5+1,none⟩ (.int .i64 p.block.r)).setCell ⟨g3,(j - 1)*5+2,none⟩ (.int .i64 p.under.n)).setCell ⟨g3,(j - 1)*5+3,none⟩ (.int .i64 p.under.r)).setCell ⟨g3,(j - 1)*5+4,none⟩ (.string p.key)) (.slice (some ⟨g3,0,none⟩) C.length sc) (YG zs j p q):=X9 (y:=p) Ch.len (by omega) (by rw[List.length_set];exact hzl) ho1 hq1
          have hb2:Below w.heap.size _ (((((wz.setCell ⟨g3,(j - 1)*5,none⟩ (.int .i64 p.block.n)).setCell ⟨g3,(j - 1)*5+1,none⟩ (.int .i64 p.block.r)).setCell ⟨g3,(j - 1)*5+2,none⟩ (.int .i64 p.under.n)).setCell ⟨g3,(j - 1)*5+3,none⟩ (.int .i64 p.under.r)).setCell ⟨g3,(j - 1)*5+4,none⟩ (.string p.key)):=(((((hb1.setCell hgb.1 _).setCell hgb.1 _).setCell hgb.1 _).setCell hgb.1 _).setCell hgb.1 _)
          clear ho1 hb1 hq1 HO1 HZ0 HZ1 HZ2 HZ3 HZ4
          have HN:Hid (W5 BLt (zs0.take i++[x]) (YG ys j p q) (j - 1)∧Own Ch.cells 5 53 w.heap.size (((((wz.setCell ⟨g3,(j - 1)*5,none⟩ (.int .i64 p.block.n)).setCell ⟨g3,(j - 1)*5+1,none⟩ (.int .i64 p.block.r)).setCell ⟨g3,(j - 1)*5+2,none⟩ (.int .i64 p.under.n)).setCell ⟨g3,(j - 1)*5+3,none⟩ (.int .i64 p.under.r)).setCell ⟨g3,(j - 1)*5+4,none⟩ (.string p.key)) (.slice (some ⟨g3,0,none⟩) C.length sc) (YG ys j p q++zs0.drop (i+1))∧Below w.heap.size w (((((wz.setCell ⟨g3,(j - 1)*5,none⟩ (.int .i64 p.block.n)).setCell ⟨g3,(j - 1)*5+1,none⟩ (.int .i64 p.block.r)).setCell ⟨g3,(j - 1)*5+2,none⟩ (.int .i64 p.under.n)).setCell ⟨g3,(j - 1)*5+3,none⟩ (.int .i64 p.under.r)).setCell ⟨g3,(j - 1)*5+4,none⟩ (.string p.key))):=Lib.hid ⟨HSW.out,by rw[←Z1Q p q (by omega),HZS.out];exact ho2,hb2⟩
          clear ho2 hb2 ho hbx hgb hne
          go_wp2_with fail
          go_roundg (j - 1)
          case measure=>rw[HGJ.out];omega
          case rel=>exact ⟨j - 1,_,rfl,by omega,by simp;omega,by rw[VI];exact hyl,Jh (by rw[Xq ys hj0 HPY.out.1 HPY.out.2,if_pos rfl,←HPY.out.1,hyx.out]),HN⟩
         ·have HN1:=hdone _ HB5.out (hV.out.1.stands Vv (fun x1 y1 _ hx1 hy1=>by
           rw[HPY.out.1] at hx1;rw[HPY.out.2] at hy1;cases hx1;cases hy1
           have hpm:zs.Perm C:=by
            have h2:=hV.out.1.perm.append_right (zs0.drop (i+1))
            rw[HZS.out,show zs0.take i++[x]=zs0.take (i+1) by rw[List.take_add_one,HSS.out.1];rfl,List.take_append_drop] at h2
            exact h2.trans HZ.out.1
           have hnz:zs.Pairwise (fun a b=>a.block≠b.block):=hpm.symm.pairwise HNB.out (fun h e=>h e.symm)
           have hne:=YX.1 hnz (j - 1) j q p (by omega) HPQ.out.2 HPQ.out.1
           rcases Y5 q.block p.block with t|t|t
           ·exact t
           ·exact absurd t hne
           ·exact absurd (HVV.out.2 t) hlt2))
          clear hV hdone HVV HCM
          go_wp2_with fail
          go_roundg (C.length+1 - (i+1))
          case measure=>rw[HGG.out];omega
          case rel=>exact ⟨i+1,zs,rfl,by omega,by omega,by go_num,HN1⟩
        ·have HN0:=Jh (fun n=>(hdone (wr.drewN n) (below_drewN (Below.refl _ _) n) (hV.out.1.stands Vv (fun x y h0 _ _=>absurd h0 hj0))).out)
         have hj1:¬ (0:Int)<(j:Int):=by omega
         clear hV hdone
         go_upto_region 15 with fail
         go_quiet (fail)
         have HN1:=Jh (HN0.out nq)
         go_wp2_with fail
         go_roundg (C.length+1 - (i+1))
         case measure=>rw[HGG.out];omega
         case rel=>exact ⟨i+1,zs,rfl,by omega,by omega,by go_num,HN1⟩
      ·have hkk:¬ (i:Int)<(C.length:Int):=by omega
       have hti:zs0.take C.length=zs0.take i:=by rw[List.take_of_length_le (by rw[HZ.out.1.length_eq];exact Nat.le_refl _),List.take_of_length_le (by rw[HZ.out.1.length_eq];omega)]
       have HF:=Jh (Qf HA.out.1 HA.out.2 HGT.out HCL.out HZ.out.1 (by rw[hti];exact HZ.out.2.1) HZ.out.2.2.1 HZ.out.2.2.2)
       clear hti
       go_wp2_with fail
       go_ret
       exact HF.out
structure Rw where
 va:Option Addr
 ca:Nat
 vk:Option Addr
 ck:Nat
 gp:Nat
 vb:Option Addr
 cb:Nat
 l:List El
 D:List Ch
 ms:List OpD
def Rw.val (b:Rw):Value:=.agg #[.slice b.va b.l.length b.ca,.slice b.vk b.D.length b.ck,.pointer (some ⟨b.gp,0,none⟩),.slice b.vb b.ms.length b.cb]
structure WIs (W:World) (b:Rw) (V:Vw):Prop where
 el:Z4 El.cells 4 W (.slice b.va b.l.length b.ca) b.l
 al:Z4 Ch.cells 5 W (.slice b.vk b.D.length b.ck) b.D
 op:Z4 OpD.cells 26 W (.slice b.vb b.ms.length b.cb) b.ms
 ln:b.l.length≤990∧b.ms.length≤1000∧b.D.length≤1000
 ao:Zm V.H b.D
 ac:XA V.H
 ul:XJ b.l
 rg:∀ W',Below W.heap.size W W'→∀ u:St,Calls Tryz.prog 108 #[.pointer (some ⟨b.gp,0,none⟩),.agg #[.int .i64 u.n,.int .i64 u.r]] W' fun e w'=>Wk W' (V.regs u) e w'
 lv:∀ u,V.live u=X2 b.l u
 tx:∀ u s,YA b.l u=some s→V.txt u=Y9 b.l b.ms s.lo s.hi
theorem WIs.below {W W':World} {b:Rw} {V:Vw} (h:WIs W b V) (hb:Below W.heap.size W W'):WIs W' b V :=
 ⟨h.el.below hb,h.al.below hb,h.op.below hb,h.ln,h.ao,h.ac,h.ul,fun W2 h2 u=>h.rg W2 (hb.trans (h2.mono hb.size)) u,h.lv,h.tx⟩
def RwB (W:World) (x:Nat) (b:Rw):Prop:=W.heap[x]?=some (.cells #[.slice b.va b.l.length b.ca,.slice b.vk b.D.length b.ck,.pointer (some ⟨b.gp,0,none⟩),.slice b.vb b.ms.length b.cb] 121 (0,0))
theorem RwB.ext {S:Nat→Prop} {W W':World} {x:Nat} {b:Rw} (h:RwB W x b) (hx:Ext S W W') (hn:¬ S x):RwB W' x b:=(hx.block x (Array.getElem?_eq_some_iff.1 (show W.heap[x]?=_ from h)).1 hn).trans h
theorem RwB.cells {W:World} {x:Nat} {b:Rw} (h:RwB W x b):W.cell? ⟨x,0,none⟩=some (.slice b.va b.l.length b.ca)∧W.cell? ⟨x,1,none⟩=some (.slice b.vk b.D.length b.ck)∧W.cell? ⟨x,2,none⟩=some (.pointer (some ⟨b.gp,0,none⟩))∧W.cell? ⟨x,3,none⟩=some (.slice b.vb b.ms.length b.cb):=by
 have h:=show W.heap[x]?=_ from h
 refine ⟨?_,?_,?_,?_⟩ <;> simp[World.cell?,h]
def Ut (V:Vw) (b:Rw) (n:Nat):Prop:=∀ (u:St) (W:World),WIs W b V→Calls Tryz.prog 56 #[b.val,.agg #[.int .i64 u.n,.int .i64 u.r],.int .i64 (n:Int)] W fun e w'=>Vj V n u W e w'
def QB (V:Vw) (b:Rw) (n:Nat):Prop:=∀ (u:St) (s:Spn) (W:World),WIs W b V→YA b.l u=some s→Calls Tryz.prog 85 #[b.val,.agg #[.int .i64 u.n,.int .i64 u.r],.int .i64 (n:Int)] W fun e w'=>RF V n u W e w'
theorem Z4.scells {w:World} {v:Value} {l:List St} (h:Z4 St.cells 2 w v l) (hne:l≠[]):∃ b o cap,v=.slice (some ⟨b,o,none⟩) l.length cap∧∀ i (x:St),l[i]?=some x→w.cell? ⟨b,o+i*2,none⟩=some (.int .i64 x.n)∧w.cell? ⟨b,o+i*2+1,none⟩=some (.int .i64 x.r):=by
 obtain ⟨a,cap,rfl,_,_,h4⟩:=h
 obtain ⟨b,o,rfl,h6⟩:=h4 hne
 exact ⟨b,o,cap,rfl,fun i x hi=>⟨h6 i x hi 0 _ rfl,h6 i x hi 1 _ rfl⟩⟩
theorem Z1c (V:Vw) (b:Rw) (n:Nat) (hn:n≤100000) (hrow:Ut V b n) (hnode:QB V b n):Ut V b (n+1):=by
 intro u w hB
 obtain ⟨dv,hdv⟩:∃ dv:Int,dv=((n+1:Nat):Int):=⟨_,rfl⟩
 rw[←hdv]
 have hd0:(0:Int)<dv:=by omega
 have hdw:IntKind.i64.wrap (dv - 1)=(n:Int):=by rw[show dv - 1=(n:Int) by omega];exact IntWalk.i64_in _ (by omega)
 obtain ⟨m,he⟩:=hB.ac u
 have hB0:Below w.heap.size w ((w.alloc (.cells #[.slice b.va b.l.length b.ca,.slice b.vk b.D.length b.ck,.pointer (some ⟨b.gp,0,none⟩),.slice b.vb b.ms.length b.cb] 121)).alloc (.cells #[.int .i64 u.n,.int .i64 u.r] 23)):=((Below.refl _ _).alloc (Nat.le_refl _) _).alloc (by simp) _
 have hwb:RwB ((w.alloc (.cells #[.slice b.va b.l.length b.ca,.slice b.vk b.D.length b.ck,.pointer (some ⟨b.gp,0,none⟩),.slice b.vb b.ms.length b.cb] 121)).alloc (.cells #[.int .i64 u.n,.int .i64 u.r] 23)) w.heap.size b:=(Below.heap_alloc _ _ _ (by simp)).trans (World.alloc_heap_new w _)
 have hz1:((w.alloc (.cells #[.slice b.va b.l.length b.ca,.slice b.vk b.D.length b.ck,.pointer (some ⟨b.gp,0,none⟩),.slice b.vb b.ms.length b.cb] 121)).alloc (.cells #[.int .i64 u.n,.int .i64 u.r] 23)).heap.size=w.heap.size+2:=by simp
 have x0:((w.alloc (.cells #[.slice b.va b.l.length b.ca,.slice b.vk b.D.length b.ck,.pointer (some ⟨b.gp,0,none⟩),.slice b.vb b.ms.length b.cb] 121)).alloc (.cells #[.int .i64 u.n,.int .i64 u.r] 23)).cell? ⟨w.heap.size+1,0,none⟩=some (.int .i64 u.n):=by go_simp
 have x1:((w.alloc (.cells #[.slice b.va b.l.length b.ca,.slice b.vk b.D.length b.ck,.pointer (some ⟨b.gp,0,none⟩),.slice b.vb b.ms.length b.cb] 121)).alloc (.cells #[.int .i64 u.n,.int .i64 u.r] 23)).cell? ⟨w.heap.size+1,1,none⟩=some (.int .i64 u.r):=by go_simp
 have HB0:=Lib.hid hB0
 have HW1:=Jh (hB.below hB0)
 have HE:=Lib.hid he
 have HRW:=Lib.hid hrow
 have HNODE:=Lib.hid hnode
 have HLE:=Jh (Vw.row_le hB.ao (n:=n+1) he)
 have HLN:=Lib.hid hB.ln
 obtain ⟨w0,w1',w2',w3'⟩:=hwb.cells
 have HWB:=Lib.hid hwb
 unfold Rw.val
 clear hB hB0 he hrow hnode hdv hwb
 go_enter Tryz.func56,Tryz.ntmps56
 go_upto_region 2 with fail
 generalize (w.alloc (.cells #[.slice b.va b.l.length b.ca,.slice b.vk b.D.length b.ck,.pointer (some ⟨b.gp,0,none⟩),.slice b.vb b.ms.length b.cb] 121)).alloc (.cells #[.int .i64 u.n,.int .i64 u.r] 23)=w1 at *
 have hz1l:w.heap.size+2≤w1.heap.size:=by omega
 clear hz1
 go_wp2_with fail
 refine (TV _ b.D u.n u.r w1 HW1.out.al (by have:=HLN.out;omega) HW1.out.ao).mono ?_
 rintro e w2 ⟨v2,K,rfl,hown2,hk,b2⟩
 have hkc:Yr V.H u=K:=Tk hk
 have HROW:Hid (V.row (n+1) u=K.flatMap fun c=>V.one n c.block):=Jh (by rw[Vw.row_succ,hkc])
 have HKL:Hid ((K.flatMap fun c=>V.one n c.block).length≤b.D.length):=Jh (by rw[←HROW.out];exact HLE.out)
 have hz2:=b2.size
 obtain ⟨a2,c2,e2,hc2,hm2,-⟩:=hown2.slice (fun _=>rfl)
 rw[List.length_map] at e2 hc2
 subst e2
 unfold maxLen at hm2
 have HOW:=Lib.hid hown2
 have HB2:=Jh (HB0.out.trans (b2.mono HB0.out.size))
 have HW2:=Jh (HW1.out.below b2)
 have HWB2:=Jh (HWB.out.ext (Ext.of_below (S:=fun _=>False) b2) (fun f=>f))
 clear hown2 hk hkc b2 x0 x1 w0 w1' w2' w3' HB0 HW1 HWB HLE HE
 go_wp2_with fail
 go_loopg [7,9] K.length (fun g ov iv wx=>∃ (k:Nat) (sv:Sl) (vs:List NdV),g=K.length - k∧k≤K.length∧iv=.int .i64 k∧ov=.slice sv.a sv.n sv.cap∧Hid (Own NdV.cells 6 28 w.heap.size wx sv.val vs)∧Hid (∀ j,sv.val.ownBlock=some j→w2.heap.size≤j)∧Hid (Zb (fun j=>w.heap.size≤j∧sv.val.ownBlock≠some j) wx vs (YO V n K k))∧Hid (Below w2.heap.size w2 wx))
 case atStart=>exact ⟨0,Z2,[],rfl,Nat.zero_le _,rfl,rfl,Lib.hid Own.nil,Jh (fun j h=>by cases h),Lib.hid Zb.nil,Jh (Below.refl _ _)⟩
 case round =>
  obtain ⟨k,sv,vs,hg,hk,rfl,rfl,HO,HSV,HN,HB⟩:=hrel
  have HG:=Lib.hid hg
  have hwz:=HB.out.size
  clear hg
  by_cases hlt:k<K.length
  ·obtain ⟨x,hx⟩:∃ x,K[k]?=some x:=⟨_,List.getElem?_eq_getElem hlt⟩
   have hkk:(k:Int)<(K.length:Int):=by omega
   have hk0:(0:Int)≤(k:Int):=by omega
   have hvl:vs.length=(YO V n K k).length:=HN.out.1
   have hpl1:=Uk V n K (k+1)
   rw[WU hx,List.length_append] at hpl1
   have hkd:=HKL.out
   have hdn:=HLN.out.2.2
   have HSU:=Jh (WU (V:=V) (n:=n) hx)
   have hw4:=HOW.out.ext (Ext.of_below (S:=fun _=>False) HB.out) (fun _ _ f=>f)
   obtain ⟨ba,oa,ca1,e1,hcs⟩:=(hw4.slice (fun _=>rfl)).scells (by intro e;have:=congrArg List.length e;rw[List.length_map,List.length_nil] at this;omega)
   rw[List.length_map] at e1
   cases e1
   obtain ⟨y0,y1⟩:=hcs k x.block (by rw[List.getElem?_map,hx];rfl)
   have hwl:=HW2.out.below HB.out
   have hwbr:=HWB2.out.ext (Ext.of_below (S:=fun _=>False) HB.out) (fun f=>f)
   obtain ⟨c0,c1,c2x,c3⟩:=hwbr.cells
   obtain ⟨⟨xn,xr⟩,xu,xk⟩:=x
   simp only at y0 y1 hpl1
   have HWL:=Lib.hid hwl
   have HBA:Hid (ba<w2.heap.size):=Jh ((HOW.out.blk ba rfl).2)
   clear hx hcs hw4 hwl hwbr
   go_upto_region 6 with fail
   have HS:Hid (∀ W,Below wr.heap.size wr W→W.cell? ⟨w.heap.size,0,none⟩=some (.slice b.va b.l.length b.ca)∧W.cell? ⟨w.heap.size,1,none⟩=some (.slice b.vk b.D.length b.ck)∧W.cell? ⟨w.heap.size,2,none⟩=some (.pointer (some ⟨b.gp,0,none⟩))∧W.cell? ⟨w.heap.size,3,none⟩=some (.slice b.vb b.ms.length b.cb)∧W.cell? ⟨ba,oa+k*2,none⟩=some (.int .i64 xn)∧W.cell? ⟨ba,oa+k*2+1,none⟩=some (.int .i64 xr)):=Jh (fun W hW=>⟨Z0 hW c0,Z0 hW c1,Z0 hW c2x,Z0 hW c3,Z0 hW y0,Z0 hW y1⟩)
   have hS0:(fun W:World=>W.cell? ⟨w.heap.size,0,none⟩=some (.slice b.va b.l.length b.ca)∧W.cell? ⟨w.heap.size,1,none⟩=some (.slice b.vk b.D.length b.ck)∧W.cell? ⟨w.heap.size,2,none⟩=some (.pointer (some ⟨b.gp,0,none⟩))∧W.cell? ⟨w.heap.size,3,none⟩=some (.slice b.vb b.ms.length b.cb)∧W.cell? ⟨ba,oa+k*2,none⟩=some (.int .i64 xn)∧W.cell? ⟨ba,oa+k*2+1,none⟩=some (.int .i64 xr)) wr.drew:=HS.out _ (Below.refl _ _).drew
   refine Zf (fun W:World=>W.cell? ⟨w.heap.size,0,none⟩=some (.slice b.va b.l.length b.ca)∧W.cell? ⟨w.heap.size,1,none⟩=some (.slice b.vk b.D.length b.ck)∧W.cell? ⟨w.heap.size,2,none⟩=some (.pointer (some ⟨b.gp,0,none⟩))∧W.cell? ⟨w.heap.size,3,none⟩=some (.slice b.vb b.ms.length b.cb)∧W.cell? ⟨ba,oa+k*2,none⟩=some (.int .i64 xn)∧W.cell? ⟨ba,oa+k*2+1,none⟩=some (.int .i64 xr)) (fun _=>false) (by kernel_rfl) ?_
   refine JR 0 25 _ rfl rfl hS0 (fun W hW=>by obtain ⟨q0,q1,q2,q3,q4,q5⟩:=hW;go_simp;try rfl) ?_
   try simp only[Ja]
   refine JR 1 26 (.slice b.va b.l.length b.ca) rfl rfl hS0 (fun W hW=>by obtain ⟨q0,q1,q2,q3,q4,q5⟩:=hW;go_simp;try rfl) ?_
   try simp only[Ja]
   refine JR 2 27 _ rfl rfl hS0 (fun W hW=>by obtain ⟨q0,q1,q2,q3,q4,q5⟩:=hW;go_simp;try rfl) ?_
   try simp only[Ja]
   refine JR 3 28 _ rfl rfl hS0 (fun W hW=>by obtain ⟨q0,q1,q2,q3,q4,q5⟩:=hW;go_simp;try rfl) ?_
   try simp only[Ja]
   refine JR 4 29 _ rfl rfl hS0 (fun W hW=>by obtain ⟨q0,q1,q2,q3,q4,q5⟩:=hW;go_simp;try rfl) ?_
   try simp only[Ja]
   refine JR 5 30 (.agg #[.int .i64 xn,.int .i64 xr]) rfl rfl hS0 (fun W hW=>by obtain ⟨q0,q1,q2,q3,q4,q5⟩:=hW;go_simp;try rfl) ?_
   try simp only[Ja]
   refine ZB (i:=6) (d:=some 31) (w':=wr.drew) (by kernel_rfl) rfl rfl (by rfl) (by go_simp;try rfl) ((Z1D _ b.l xn xr wr.drew HWL.out.el).mono ?_)
   rintro e w4 ⟨rfl,b4⟩
   have hb4:Below wr.heap.size wr w4:=(Below.refl _ _).drew.trans b4
   refine ⟨_,rfl,fun _=>HS.out _ hb4,?_⟩
   try simp only[Ja]
   refine Xf (i:=7) (d:=some 10) (v:=.bool (X2 b.l ⟨xn,xr⟩)) rfl rfl rfl (by kernel_rfl) (by kernel_rfl) (by kernel_rfl) (by kernel_rfl) (fun _ _ _ h=>h) (.inl ⟨by rfl,fun W hW=>by obtain ⟨q0,q1,q2,q3,q4,q5⟩:=hW;go_simp;try rfl⟩) (HS.out _ hb4) ?_
   try simp only[Ja]
   refine Zd (by kernel_rfl) ?_ _
   have HB4:=Lib.hid hb4
   have hz4:=hb4.size
   clear hS0 c0 c1 c2x c3 y0 y1 hb4 b4
   cases hlv:X2 b.l ⟨xn,xr⟩ with
   | true =>
    have HONE:Hid (V.one n ⟨xn,xr⟩=[V.nd ⟨xn,xr⟩ (V.row n ⟨xn,xr⟩)]):=Jh (by unfold Vw.one;rw[if_pos];rw[HW2.out.lv,hlv])
    rw[HONE.out,List.length_singleton] at hpl1
    obtain ⟨s,hsp⟩:=Option.isSome_iff_exists.1 (show (YA b.l ⟨xn,xr⟩).isSome=true from hlv)
    have HSP:=Lib.hid hsp
    clear hlv hsp
    go_upto_region 8 with fail
    have hS0:(fun W:World=>W.cell? ⟨w.heap.size,0,none⟩=some (.slice b.va b.l.length b.ca)∧W.cell? ⟨w.heap.size,1,none⟩=some (.slice b.vk b.D.length b.ck)∧W.cell? ⟨w.heap.size,2,none⟩=some (.pointer (some ⟨b.gp,0,none⟩))∧W.cell? ⟨w.heap.size,3,none⟩=some (.slice b.vb b.ms.length b.cb)∧W.cell? ⟨ba,oa+k*2,none⟩=some (.int .i64 xn)∧W.cell? ⟨ba,oa+k*2+1,none⟩=some (.int .i64 xr)) w4.drew:=HS.out _ HB4.out.drew
    refine Zf (fun W:World=>W.cell? ⟨w.heap.size,0,none⟩=some (.slice b.va b.l.length b.ca)∧W.cell? ⟨w.heap.size,1,none⟩=some (.slice b.vk b.D.length b.ck)∧W.cell? ⟨w.heap.size,2,none⟩=some (.pointer (some ⟨b.gp,0,none⟩))∧W.cell? ⟨w.heap.size,3,none⟩=some (.slice b.vb b.ms.length b.cb)∧W.cell? ⟨ba,oa+k*2,none⟩=some (.int .i64 xn)∧W.cell? ⟨ba,oa+k*2+1,none⟩=some (.int .i64 xr)) (fun _=>false) (by kernel_rfl) ?_
    refine JR 0 33 _ rfl rfl hS0 (fun W hW=>by obtain ⟨q0,q1,q2,q3,q4,q5⟩:=hW;go_simp;try rfl) ?_
    try simp only[Ja]
    refine JR 1 34 (.agg #[.slice b.va b.l.length b.ca,.slice b.vk b.D.length b.ck,.pointer (some ⟨b.gp,0,none⟩),.slice b.vb b.ms.length b.cb]) rfl rfl hS0 (fun W hW=>by obtain ⟨q0,q1,q2,q3,q4,q5⟩:=hW;go_simp;try rfl) ?_
    try simp only[Ja]
    refine JR 2 35 _ rfl rfl hS0 (fun W hW=>by obtain ⟨q0,q1,q2,q3,q4,q5⟩:=hW;go_simp;try rfl) ?_
    try simp only[Ja]
    refine JR 3 36 _ rfl rfl hS0 (fun W hW=>by obtain ⟨q0,q1,q2,q3,q4,q5⟩:=hW;go_simp;try rfl) ?_
    try simp only[Ja]
    refine JR 4 37 _ rfl rfl hS0 (fun W hW=>by obtain ⟨q0,q1,q2,q3,q4,q5⟩:=hW;go_simp;try rfl) ?_
    try simp only[Ja]
    refine JR 5 38 (.agg #[.int .i64 xn,.int .i64 xr]) rfl rfl hS0 (fun W hW=>by obtain ⟨q0,q1,q2,q3,q4,q5⟩:=hW;go_simp;try rfl) ?_
    try simp only[Ja]
    refine JR 6 39 _ rfl rfl hS0 (fun W hW=>by obtain ⟨q0,q1,q2,q3,q4,q5⟩:=hW;go_simp;try rfl) ?_
    try simp only[Ja]
    refine JR 7 40 (.int .i64 (n:Int)) rfl rfl hS0 (fun W hW=>by obtain ⟨q0,q1,q2,q3,q4,q5⟩:=hW;have hdw:=hdw;go_simp;try rfl) ?_
    try simp only[Ja]
    have HWD:=Jh (HWL.out.below HB4.out.drew)
    have HNd:=Jh (HN.out.below (HB4.out.drew))
    have HOd:=Jh (HO.out.ext (Ext.of_below (S:=fun _=>False) HB4.out.drew) (fun _ _ f=>f))
    refine ZB (i:=8) (d:=some 41) (w':=w4.drew) (by kernel_rfl) rfl rfl (by rfl) (by go_simp;try rfl) ((HNODE.out ⟨xn,xr⟩ _ w4.drew HWD.out HSP.out).mono ?_)
    rintro e w6 ⟨y,rfl,hx6,b6⟩
    have hb6:Below wr.heap.size wr w6:=HB4.out.trans ((Below.refl _ _).drew.trans b6 |>.mono hz4)
    have hzd:w4.drew.heap.size=w4.heap.size:=rfl
    have hz6:=hb6.size
    have hb6d:Below w4.drew.heap.size w4.drew w6:=b6
    have hz46:w4.heap.size≤w6.heap.size:=b6.size
    have HO6:=Jh (HOd.out.ext (Ext.of_below (S:=fun _=>False) b6) (fun _ _ f=>f))
    have HN6:=Jh (HNd.out.below b6)
    have HB6:=Jh (HB.out.trans (hb6.mono hwz))
    have HX6:=Lib.hid hx6
    obtain ⟨i0,hi,hz0,hz1,hz2q⟩:=info_parts X8
    have hvl6:vs.length+1≤b.D.length:=by omega
    obtain ⟨v8,w8,hr8,hown8,hx8,hfr8⟩:=Yt (P:=Tryz.prog) 26 26 i0 (.agg #[.int .i64 0,.int .i64 0,.string ⟨#[]⟩,.slice none 0 0,.slice none 0 0,.slice none 0 0]) 104 YH hi hz0 hz1 hz2q rfl (by omega) NdV.len NdV.one (HO6.out.alloc (.cells y.cells.toArray 28)) y w6.heap.size 1 (fun j u hj=>ZF j u hj) (by unfold maxLen;omega) (by omega) (by simp;omega)
    obtain ⟨⟨g8,n8,c8⟩,rfl⟩:=hown8.sl20
    have hxs8:=hx8.size
    try rw[World.size_alloc] at hxs8
    simp only[Sl.val] at hr8
    refine ⟨_,rfl,fun _=>HS.out _ hb6,?_⟩
    try simp only[Ja]
    refine Zk (i:=9) (d:=some 42) (v:=.slice (some ⟨w6.heap.size,0,none⟩) 1 1) (w':=w6.alloc (.cells y.cells.toArray 28)) (by kernel_rfl) rfl rfl (by rfl) (by simp only[NdV.cells];go_simp;try rfl) (fun _=>HS.out _ (hb6.alloc hz6 _)) ?_
    try simp only[Ja]
    have hS8:(fun W:World=>W.cell? ⟨w.heap.size,0,none⟩=some (.slice b.va b.l.length b.ca)∧W.cell? ⟨w.heap.size,1,none⟩=some (.slice b.vk b.D.length b.ck)∧W.cell? ⟨w.heap.size,2,none⟩=some (.pointer (some ⟨b.gp,0,none⟩))∧W.cell? ⟨w.heap.size,3,none⟩=some (.slice b.vb b.ms.length b.cb)∧W.cell? ⟨ba,oa+k*2,none⟩=some (.int .i64 xn)∧W.cell? ⟨ba,oa+k*2+1,none⟩=some (.int .i64 xr)) w8:=by
     have hne:∀ j,sv.val.ownBlock=some j→w2.heap.size≤j:=HSV.out
     obtain ⟨q0,q1,q2,q3,q4,q5⟩:=HS.out _ (hb6.alloc hz6 _)
     have hba:=HBA.out
     exact ⟨hx8.keep q0 (fun e=>by have:=hne _ e;omega),hx8.keep q1 (fun e=>by have:=hne _ e;omega),hx8.keep q2 (fun e=>by have:=hne _ e;omega),hx8.keep q3 (fun e=>by have:=hne _ e;omega),hx8.keep q4 (fun e=>by have:=hne _ e;omega),hx8.keep q5 (fun e=>by have:=hne _ e;omega)⟩
    refine Zk (i:=10) (d:=some 43) (v:=.slice g8 n8 c8) (w':=w8) (by kernel_rfl) rfl rfl (by rfl) (Ym rfl rfl rfl hr8) (fun _=>hS8) ?_
    try simp only[Ja]
    refine JR 11 7 _ rfl rfl hS8 (fun W hW=>by obtain ⟨q0,q1,q2,q3,q4,q5⟩:=hW;go_simp;try rfl) ?_
    try simp only[Ja]
    refine Zd (by kernel_rfl) ?_ _
    clear hS8 hr8 hS0 b6 hx6 HS
    have hsvb:∀ j,sv.val.ownBlock=some j→j<wr.heap.size:=fun j hj=>(HO.out.blk j hj).2
    have hown9:∀ j,sv.val.ownBlock=some j→w2.heap.size≤j:=HSV.out
    have HN8:Hid (Zb (fun j=>w.heap.size≤j∧(Value.slice g8 n8 c8).ownBlock≠some j) w8 (vs++[y]) (YO V n K (k+1))):=Jh (by
     rw[HSU.out,HONE.out]
     refine Zb.append ?_ ?_
     ·refine ((HN6.out.ext ((Ext.refl (fun _=>False) _).alloc _) (fun _ _ _ f=>f)).monoL (D':=fun j=>w.heap.size≤j∧(Value.slice g8 n8 c8).ownBlock≠some j∧sv.val.ownBlock≠some j) (fun j hj hl=>⟨hj.1,fun e=>?_,hj.2⟩)).ext hx8 (fun j hj _=>hj.2.2) |>.mono (fun j hj=>⟨hj.1,hj.2.1⟩)
      rcases hfr8 j e with h|h
      ·exact hj.2 h
      ·first|omega|(rw[World.size_alloc] at hl;omega)|(have:=hl;omega)
     ·refine (((Zb.one HX6.out).ext ((Ext.refl (fun _=>False) _).alloc _) (fun _ _ _ f=>f)).monoL (D':=fun j=>w.heap.size≤j∧(Value.slice g8 n8 c8).ownBlock≠some j∧sv.val.ownBlock≠some j) (fun j hj hl=>⟨by omega,fun e=>?_,fun e=>?_⟩)).ext hx8 (fun j hj _=>hj.2.2) |>.mono (fun j hj=>⟨hj.1,hj.2.1⟩)
      ·rcases hfr8 j e with h|h
       ·have:=hsvb j h;omega
       ·first|omega|(rw[World.size_alloc] at hl;omega)|(have:=hl;omega)
      ·have:=hsvb j e;omega)
    have HB8:=Jh (Ext.new (B:=w2.heap.size) (HB6.out.alloc (by omega) _) hx8 (fun j hj _ e=>by have:=hown9 j e;omega) (by first|omega|(simp;omega)))
    have HSV8:Hid (∀ j,(Sl.mk g8 n8 c8).val.ownBlock=some j→w2.heap.size≤j):=Jh (fun j hj=>by rcases hfr8 j hj with h|h;exact hown9 j h;first|omega|(rw[World.size_alloc] at h;omega))
    have HO8:=Lib.hid hown8
    clear hown8 hx8 hfr8 HN6 HO6 HB6
    go_wp2_with fail
    go_roundg (K.length - (k+1))
    case measure=>rw[HG.out];omega
    case rel=>exact ⟨k+1,⟨g8,n8,c8⟩,_,rfl,hlt,by go_num,rfl,HO8,HSV8,HN8,HB8⟩
   | false =>
    have HONE:Hid (V.one n ⟨xn,xr⟩=V.row n ⟨xn,xr⟩):=Jh (by unfold Vw.one;rw[if_neg];rw[HW2.out.lv,hlv];simp)
    rw[HONE.out] at hpl1
    clear hlv
    go_upto_region 9 with fail
    have hS0:(fun W:World=>W.cell? ⟨w.heap.size,0,none⟩=some (.slice b.va b.l.length b.ca)∧W.cell? ⟨w.heap.size,1,none⟩=some (.slice b.vk b.D.length b.ck)∧W.cell? ⟨w.heap.size,2,none⟩=some (.pointer (some ⟨b.gp,0,none⟩))∧W.cell? ⟨w.heap.size,3,none⟩=some (.slice b.vb b.ms.length b.cb)∧W.cell? ⟨ba,oa+k*2,none⟩=some (.int .i64 xn)∧W.cell? ⟨ba,oa+k*2+1,none⟩=some (.int .i64 xr)) w4.drew:=HS.out _ HB4.out.drew
    refine Zf (fun W:World=>W.cell? ⟨w.heap.size,0,none⟩=some (.slice b.va b.l.length b.ca)∧W.cell? ⟨w.heap.size,1,none⟩=some (.slice b.vk b.D.length b.ck)∧W.cell? ⟨w.heap.size,2,none⟩=some (.pointer (some ⟨b.gp,0,none⟩))∧W.cell? ⟨w.heap.size,3,none⟩=some (.slice b.vb b.ms.length b.cb)∧W.cell? ⟨ba,oa+k*2,none⟩=some (.int .i64 xn)∧W.cell? ⟨ba,oa+k*2+1,none⟩=some (.int .i64 xr)) (fun _=>false) (by kernel_rfl) ?_
    refine JR 0 44 _ rfl rfl hS0 (fun W hW=>by obtain ⟨q0,q1,q2,q3,q4,q5⟩:=hW;go_simp;try rfl) ?_
    try simp only[Ja]
    refine JR 1 45 (.agg #[.slice b.va b.l.length b.ca,.slice b.vk b.D.length b.ck,.pointer (some ⟨b.gp,0,none⟩),.slice b.vb b.ms.length b.cb]) rfl rfl hS0 (fun W hW=>by obtain ⟨q0,q1,q2,q3,q4,q5⟩:=hW;go_simp;try rfl) ?_
    try simp only[Ja]
    refine JR 2 46 _ rfl rfl hS0 (fun W hW=>by obtain ⟨q0,q1,q2,q3,q4,q5⟩:=hW;go_simp;try rfl) ?_
    try simp only[Ja]
    refine JR 3 47 _ rfl rfl hS0 (fun W hW=>by obtain ⟨q0,q1,q2,q3,q4,q5⟩:=hW;go_simp;try rfl) ?_
    try simp only[Ja]
    refine JR 4 48 _ rfl rfl hS0 (fun W hW=>by obtain ⟨q0,q1,q2,q3,q4,q5⟩:=hW;go_simp;try rfl) ?_
    try simp only[Ja]
    refine JR 5 49 (.agg #[.int .i64 xn,.int .i64 xr]) rfl rfl hS0 (fun W hW=>by obtain ⟨q0,q1,q2,q3,q4,q5⟩:=hW;go_simp;try rfl) ?_
    try simp only[Ja]
    refine JR 6 50 _ rfl rfl hS0 (fun W hW=>by obtain ⟨q0,q1,q2,q3,q4,q5⟩:=hW;go_simp;try rfl) ?_
    try simp only[Ja]
    refine JR 7 51 (.int .i64 (n:Int)) rfl rfl hS0 (fun W hW=>by obtain ⟨q0,q1,q2,q3,q4,q5⟩:=hW;have hdw:=hdw;go_simp;try rfl) ?_
    try simp only[Ja]
    have HWD:=Jh (HWL.out.below HB4.out.drew)
    have HNd:=Jh (HN.out.below (HB4.out.drew))
    have HOd:=Jh (HO.out.ext (Ext.of_below (S:=fun _=>False) HB4.out.drew) (fun _ _ f=>f))
    refine ZB (i:=8) (d:=some 52) (w':=w4.drew) (by kernel_rfl) rfl rfl (by rfl) (by go_simp;try rfl) ((HRW.out ⟨xn,xr⟩ w4.drew HWD.out).mono ?_)
    rintro e w6 ⟨v6,us,rfl,hown6,hx6,b6⟩
    obtain ⟨⟨ga,gn,gc⟩,rfl⟩:=hown6.sl20
    have hb6:Below wr.heap.size wr w6:=HB4.out.trans ((Below.refl _ _).drew.trans b6 |>.mono hz4)
    have hzd:w4.drew.heap.size=w4.heap.size:=rfl
    have hz6:=hb6.size
    have hb6d:Below w4.drew.heap.size w4.drew w6:=b6
    have hz46:w4.heap.size≤w6.heap.size:=b6.size
    have HO6:=Jh (HOd.out.ext (Ext.of_below (S:=fun _=>False) b6) (fun _ _ f=>f))
    have HN6:=Jh (HNd.out.below b6)
    have HB6:=Jh (HB.out.trans (hb6.mono hwz))
    have HX6:=Lib.hid hx6
    obtain ⟨i0,hi,hz0,hz1,hz2q⟩:=info_parts X8
    have hvl6:vs.length+us.length≤b.D.length:=by have:=hx6.1;omega
    obtain ⟨v8,w8,hr8,hown8,hx8,hfr8⟩:=Xz (P:=Tryz.prog) 26 26 i0 (.agg #[.int .i64 0,.int .i64 0,.string ⟨#[]⟩,.slice none 0 0,.slice none 0 0,.slice none 0 0]) 104 YH hi hz0 hz1 hz2q rfl (by omega) NdV.len NdV.one HO6.out hown6 (by unfold maxLen;omega) (by omega) (by omega)
    obtain ⟨⟨g8,n8,c8⟩,rfl⟩:=hown8.sl20
    have hxs8:=hx8.size
    try rw[World.size_alloc] at hxs8
    simp only[Sl.val] at hr8
    refine ⟨_,rfl,fun _=>HS.out _ hb6,?_⟩
    try simp only[Ja]
    have hS8:(fun W:World=>W.cell? ⟨w.heap.size,0,none⟩=some (.slice b.va b.l.length b.ca)∧W.cell? ⟨w.heap.size,1,none⟩=some (.slice b.vk b.D.length b.ck)∧W.cell? ⟨w.heap.size,2,none⟩=some (.pointer (some ⟨b.gp,0,none⟩))∧W.cell? ⟨w.heap.size,3,none⟩=some (.slice b.vb b.ms.length b.cb)∧W.cell? ⟨ba,oa+k*2,none⟩=some (.int .i64 xn)∧W.cell? ⟨ba,oa+k*2+1,none⟩=some (.int .i64 xr)) w8:=by
     have hne:∀ j,sv.val.ownBlock=some j→w2.heap.size≤j:=HSV.out
     obtain ⟨q0,q1,q2,q3,q4,q5⟩:=HS.out _ hb6
     have hba:=HBA.out
     exact ⟨hx8.keep q0 (fun e=>by have:=hne _ e;omega),hx8.keep q1 (fun e=>by have:=hne _ e;omega),hx8.keep q2 (fun e=>by have:=hne _ e;omega),hx8.keep q3 (fun e=>by have:=hne _ e;omega),hx8.keep q4 (fun e=>by have:=hne _ e;omega),hx8.keep q5 (fun e=>by have:=hne _ e;omega)⟩
    refine Zk (i:=9) (d:=some 53) (v:=.slice g8 n8 c8) (w':=w8) (by kernel_rfl) rfl rfl (by rfl) (Ym rfl rfl rfl hr8) (fun _=>hS8) ?_
    try simp only[Ja]
    refine JR 10 7 _ rfl rfl hS8 (fun W hW=>by obtain ⟨q0,q1,q2,q3,q4,q5⟩:=hW;go_simp;try rfl) ?_
    try simp only[Ja]
    refine Zd (by kernel_rfl) ?_ _
    clear hS8 hr8 hS0 b6 hx6 HS
    have hsvb:∀ j,sv.val.ownBlock=some j→j<wr.heap.size:=fun j hj=>(HO.out.blk j hj).2
    have hown9:∀ j,sv.val.ownBlock=some j→w2.heap.size≤j:=HSV.out
    have HN8:Hid (Zb (fun j=>w.heap.size≤j∧(Value.slice g8 n8 c8).ownBlock≠some j) w8 (vs++us) (YO V n K (k+1))):=Jh (by
     rw[HSU.out,HONE.out]
     refine Zb.append ?_ ?_
     ·refine ((HN6.out).monoL (D':=fun j=>w.heap.size≤j∧(Value.slice g8 n8 c8).ownBlock≠some j∧sv.val.ownBlock≠some j) (fun j hj hl=>⟨hj.1,fun e=>?_,hj.2⟩)).ext hx8 (fun j hj _=>hj.2.2) |>.mono (fun j hj=>⟨hj.1,hj.2.1⟩)
      rcases hfr8 j e with h|h
      ·exact hj.2 h
      ·first|omega|(rw[World.size_alloc] at hl;omega)|(have:=hl;omega)
     ·refine ((HX6.out).monoL (D':=fun j=>w.heap.size≤j∧(Value.slice g8 n8 c8).ownBlock≠some j∧sv.val.ownBlock≠some j) (fun j hj hl=>⟨by omega,fun e=>?_,fun e=>?_⟩)).ext hx8 (fun j hj _=>hj.2.2) |>.mono (fun j hj=>⟨hj.1,hj.2.1⟩)
      ·rcases hfr8 j e with h|h
       ·have:=hsvb j h;omega
       ·first|omega|(rw[World.size_alloc] at hl;omega)|(have:=hl;omega)
      ·have:=hsvb j e;omega)
    have HB8:=Jh (Ext.new (B:=w2.heap.size) HB6.out hx8 (fun j hj _ e=>by have:=hown9 j e;omega) (by first|omega|(simp;omega)))
    have HSV8:Hid (∀ j,(Sl.mk g8 n8 c8).val.ownBlock=some j→w2.heap.size≤j):=Jh (fun j hj=>by rcases hfr8 j hj with h|h;exact hown9 j h;first|omega|(rw[World.size_alloc] at h;omega))
    have HO8:=Lib.hid hown8
    clear hown8 hx8 hfr8 HN6 HO6 HB6
    go_wp2_with fail
    go_roundg (K.length - (k+1))
    case measure=>rw[HG.out];omega
    case rel=>exact ⟨k+1,⟨g8,n8,c8⟩,_,rfl,hlt,by go_num,rfl,HO8,HSV8,HN8,HB8⟩
  ·obtain rfl:k=K.length:=by omega
   have hkk:¬ (K.length:Int)<(K.length:Int):=by omega
   have HFIN:Hid (Vj V (n+1) u w (.returned (.slice sv.a sv.n sv.cap)) wr):=Lib.hid ⟨_,vs,rfl,HO.out,by rw[HROW.out];have:=HN.out;unfold YO at this;rw[List.take_length] at this;exact this,HB2.out.trans (HB.out.mono (by omega))⟩
   clear hlt hk HO HN HB
   go_wp2_with fail
   go_ret
   exact HFIN.out
theorem NdB.setText {W:World} {b:Nat} {id:St} {kind:ByteArray} {x y z:Sl} (h:NdB W b id kind x y z) (x':Sl):NdB (W.setCell ⟨b,4,none⟩ (.slice x'.a x'.n x'.cap)) b id kind x x' z:=by
 have h:=show W.heap[b]?=_ from h
 show (World.heap _)[b]?=_
 simp only[World.setCell,Array.getElem?_modify,if_true,h]
 rfl
def Hit (l:List El) (u:St) (k:Nat):Prop:=∃ j x,1≤j∧j<k∧(ZW l)[j]?=some x∧x.blk=u
theorem Z1o {l:List El} (hu:XJ l) {j:Nat} {x:Spn} (h1:1≤j) (hx:(ZW l)[j]?=some x):YA l x.blk=some x:=by
 refine RC (Te hu) ?_
 unfold ZH
 refine List.mem_map.2 ⟨x,?_,rfl⟩
 obtain ⟨n0,R,e⟩:=Xo l
 rw[e] at hx ⊢
 match j,h1,hx with
 | j+1,_,hx=>exact List.mem_of_getElem? (by simpa using hx)
theorem Z3a {l:List El} {u:St} {s:Spn} (h:YA l u=some s):Hit l u (ZW l).length:=by
 have:(u,s)∈ZH l:=by
  unfold YA at h
  generalize ZH l=M at h
  induction M with
  | nil=>cases h
  | cons p r ih =>
   obtain ⟨k',v'⟩:=p
   simp only[Z5] at h
   split at h
   ·rename_i e;subst e;cases h;exact List.mem_cons_self ..
   ·exact List.mem_cons_of_mem _ (ih h)
 unfold ZH at this
 obtain ⟨t,ht,e⟩:=List.mem_map.1 this
 obtain ⟨n0,R,e2⟩:=Xo l
 rw[e2] at ht
 obtain ⟨j,hj⟩:=List.getElem?_of_mem ht
 have hj2:(ZW l)[j+1]?=some t:=by rw[e2];simpa using hj
 cases e
 exact ⟨j+1,_,by omega,(List.getElem?_eq_some_iff.1 hj2).1,hj2,rfl⟩
theorem Qv {l:List El} {u:St} {k:Nat} {x:Spn} (hx:(ZW l)[k]?=some x) (hn:x.blk≠u) (h:Hit l u (k+1)):Hit l u k:=by
 obtain ⟨j,y,h1,h2,h3,h4⟩:=h
 by_cases e:j=k
 ·subst e;rw[hx] at h3;cases h3;exact absurd h4 hn
 ·exact ⟨j,y,h1,by omega,h3,h4⟩
theorem QN (V:Vw) (b:Rw) (n:Nat) (hrow:Ut V b n):QB V b n:=by
 intro u s w hB hsp
 have hB0:Below w.heap.size w ((((w.alloc (.cells #[.slice b.va b.l.length b.ca,.slice b.vk b.D.length b.ck,.pointer (some ⟨b.gp,0,none⟩),.slice b.vb b.ms.length b.cb] 121)).alloc (.cells #[.int .i64 u.n,.int .i64 u.r] 23)).alloc (.cells #[.int .i64 0,.int .i64 0,.string ⟨#[]⟩,.slice none 0 0,.slice none 0 0,.slice none 0 0] 28)).alloc (.cells #[.int .i64 u.n,.int .i64 u.r,.string ⟨#[112,97,114,97]⟩,.slice none 0 0,.slice none 0 0,.slice none 0 0] 28)):=((((Below.refl _ _).alloc (Nat.le_refl _) _).alloc (by simp) _).alloc (by simp;omega) _).alloc (by simp;omega) _
 have hz1:((((w.alloc (.cells #[.slice b.va b.l.length b.ca,.slice b.vk b.D.length b.ck,.pointer (some ⟨b.gp,0,none⟩),.slice b.vb b.ms.length b.cb] 121)).alloc (.cells #[.int .i64 u.n,.int .i64 u.r] 23)).alloc (.cells #[.int .i64 0,.int .i64 0,.string ⟨#[]⟩,.slice none 0 0,.slice none 0 0,.slice none 0 0] 28)).alloc (.cells #[.int .i64 u.n,.int .i64 u.r,.string ⟨#[112,97,114,97]⟩,.slice none 0 0,.slice none 0 0,.slice none 0 0] 28)).heap.size=w.heap.size+4:=by simp
 have hwb:RwB ((((w.alloc (.cells #[.slice b.va b.l.length b.ca,.slice b.vk b.D.length b.ck,.pointer (some ⟨b.gp,0,none⟩),.slice b.vb b.ms.length b.cb] 121)).alloc (.cells #[.int .i64 u.n,.int .i64 u.r] 23)).alloc (.cells #[.int .i64 0,.int .i64 0,.string ⟨#[]⟩,.slice none 0 0,.slice none 0 0,.slice none 0 0] 28)).alloc (.cells #[.int .i64 u.n,.int .i64 u.r,.string ⟨#[112,97,114,97]⟩,.slice none 0 0,.slice none 0 0,.slice none 0 0] 28)) w.heap.size b:=((Below.heap_alloc _ _ _ (by simp;omega)).trans ((Below.heap_alloc _ _ _ (by simp;omega)).trans ((Below.heap_alloc _ _ _ (by simp)).trans (World.alloc_heap_new w _))))
 have hrb:NdB ((((w.alloc (.cells #[.slice b.va b.l.length b.ca,.slice b.vk b.D.length b.ck,.pointer (some ⟨b.gp,0,none⟩),.slice b.vb b.ms.length b.cb] 121)).alloc (.cells #[.int .i64 u.n,.int .i64 u.r] 23)).alloc (.cells #[.int .i64 0,.int .i64 0,.string ⟨#[]⟩,.slice none 0 0,.slice none 0 0,.slice none 0 0] 28)).alloc (.cells #[.int .i64 u.n,.int .i64 u.r,.string ⟨#[112,97,114,97]⟩,.slice none 0 0,.slice none 0 0,.slice none 0 0] 28)) (w.heap.size+2) ⟨0,0⟩ ⟨#[]⟩ Z2 Z2 Z2:=by
  have:=(Xb ((w.alloc (.cells #[.slice b.va b.l.length b.ca,.slice b.vk b.D.length b.ck,.pointer (some ⟨b.gp,0,none⟩),.slice b.vb b.ms.length b.cb] 121)).alloc (.cells #[.int .i64 u.n,.int .i64 u.r] 23))).ext ((Ext.refl (fun _=>False) _).alloc (.cells #[.int .i64 u.n,.int .i64 u.r,.string ⟨#[112,97,114,97]⟩,.slice none 0 0,.slice none 0 0,.slice none 0 0] 28)) (fun f=>f)
  rwa [World.size_alloc,World.size_alloc] at this
 have hnb:NdB ((((w.alloc (.cells #[.slice b.va b.l.length b.ca,.slice b.vk b.D.length b.ck,.pointer (some ⟨b.gp,0,none⟩),.slice b.vb b.ms.length b.cb] 121)).alloc (.cells #[.int .i64 u.n,.int .i64 u.r] 23)).alloc (.cells #[.int .i64 0,.int .i64 0,.string ⟨#[]⟩,.slice none 0 0,.slice none 0 0,.slice none 0 0] 28)).alloc (.cells #[.int .i64 u.n,.int .i64 u.r,.string ⟨#[112,97,114,97]⟩,.slice none 0 0,.slice none 0 0,.slice none 0 0] 28)) (w.heap.size+3) u Zw Z2 Z2 Z2:=by
  have:=World.alloc_heap_new (((w.alloc (.cells #[.slice b.va b.l.length b.ca,.slice b.vk b.D.length b.ck,.pointer (some ⟨b.gp,0,none⟩),.slice b.vb b.ms.length b.cb] 121)).alloc (.cells #[.int .i64 u.n,.int .i64 u.r] 23)).alloc (.cells #[.int .i64 0,.int .i64 0,.string ⟨#[]⟩,.slice none 0 0,.slice none 0 0,.slice none 0 0] 28)) (.cells #[.int .i64 u.n,.int .i64 u.r,.string ⟨#[112,97,114,97]⟩,.slice none 0 0,.slice none 0 0,.slice none 0 0] 28)
  rwa [World.size_alloc,World.size_alloc,World.size_alloc] at this
 have x0:((((w.alloc (.cells #[.slice b.va b.l.length b.ca,.slice b.vk b.D.length b.ck,.pointer (some ⟨b.gp,0,none⟩),.slice b.vb b.ms.length b.cb] 121)).alloc (.cells #[.int .i64 u.n,.int .i64 u.r] 23)).alloc (.cells #[.int .i64 0,.int .i64 0,.string ⟨#[]⟩,.slice none 0 0,.slice none 0 0,.slice none 0 0] 28)).alloc (.cells #[.int .i64 u.n,.int .i64 u.r,.string ⟨#[112,97,114,97]⟩,.slice none 0 0,.slice none 0 0,.slice none 0 0] 28)).cell? ⟨w.heap.size+1,0,none⟩=some (.int .i64 u.n):=by go_simp
 have x1:((((w.alloc (.cells #[.slice b.va b.l.length b.ca,.slice b.vk b.D.length b.ck,.pointer (some ⟨b.gp,0,none⟩),.slice b.vb b.ms.length b.cb] 121)).alloc (.cells #[.int .i64 u.n,.int .i64 u.r] 23)).alloc (.cells #[.int .i64 0,.int .i64 0,.string ⟨#[]⟩,.slice none 0 0,.slice none 0 0,.slice none 0 0] 28)).alloc (.cells #[.int .i64 u.n,.int .i64 u.r,.string ⟨#[112,97,114,97]⟩,.slice none 0 0,.slice none 0 0,.slice none 0 0] 28)).cell? ⟨w.heap.size+1,1,none⟩=some (.int .i64 u.r):=by go_simp
 have HB0:=Lib.hid hB0
 have HW1:=Jh (hB.below hB0)
 have HW0:=Lib.hid hB
 have HR:=Lib.hid hrow
 have HSP:=Lib.hid hsp
 obtain ⟨w0,w1',w2',w3'⟩:=hwb.cells
 have HWB:=Lib.hid hwb
 have HRB:=Lib.hid hrb
 have HNB:=Lib.hid hnb
 have HX01:=Jh (And.intro x0 x1)
 unfold Rw.val
 clear hB hB0 hrow hsp hwb hrb hnb
 go_enter Tryz.func85,Tryz.ntmps85
 go_upto_region 2 with fail
 generalize ((((w.alloc (.cells #[.slice b.va b.l.length b.ca,.slice b.vk b.D.length b.ck,.pointer (some ⟨b.gp,0,none⟩),.slice b.vb b.ms.length b.cb] 121)).alloc (.cells #[.int .i64 u.n,.int .i64 u.r] 23)).alloc (.cells #[.int .i64 0,.int .i64 0,.string ⟨#[]⟩,.slice none 0 0,.slice none 0 0,.slice none 0 0] 28)).alloc (.cells #[.int .i64 u.n,.int .i64 u.r,.string ⟨#[112,97,114,97]⟩,.slice none 0 0,.slice none 0 0,.slice none 0 0] 28))=w1 at *
 have hz1l:w.heap.size+4≤w1.heap.size:=by omega
 clear hz1
 obtain ⟨nb,hnbe⟩:=Je (w.heap.size+3)
 rw[hnbe] at HNB ⊢
 have hnb1:w.heap.size+3≤nb∧nb<w1.heap.size:=by omega
 clear hnbe
 obtain ⟨hnb1,hnb2⟩:=hnb1
 go_wp2_with fail
 refine (HW1.out.rg w1 (Below.refl _ _) u).mono ?_
 rintro e w2 ⟨v2,rfl,hown2,hll,b2⟩
 obtain ⟨L,hL⟩:=Je (V.regs u)
 rw[hL] at hown2 hll
 have HLL:=Lib.hid hL
 obtain ⟨a2,cap2,rfl,hcc2,hmm2,-⟩:=hown2.slice (fun _=>rfl)
 unfold maxLen at hmm2
 have hz2:=b2.size
 have HB2:=Jh (HB0.out.trans (b2.mono HB0.out.size))
 have HW2:=Jh (HW1.out.below b2)
 have HWB2:=Jh (HWB.out.ext (Ext.of_below (S:=fun _=>False) b2) (fun f=>f))
 have HRB2:=Jh (HRB.out.ext (Ext.of_below (S:=fun _=>False) b2) (fun f=>f))
 have HNB2:=Jh (HNB.out.ext (Ext.of_below (S:=fun _=>False) b2) (fun f=>f))
 have HX2:=Jh (And.intro (Z0 b2 HX01.out.1) (Z0 b2 HX01.out.2))
 have HOW:=Lib.hid hown2
 obtain ⟨i0,hi,hz0,hz1q,hz2q⟩:=info_parts Wq
 clear hL hown2 b2 hcc2 x0 x1 w0 w1' w2' w3' HB0 HW1 HWB HRB HNB HX01
 go_wp2_with fail
 go_loopg [9] L.length (fun g iv wx=>∃ (k:Nat) (sv:Sl),g=L.length - k∧k≤L.length∧iv=.int .i64 k∧Hid (NdB wx nb u (Yu (L.take k)).1 sv Z2 Z2)∧Hid (Own Atr.cells 2 73 w2.heap.size wx sv.val (Yu (L.take k)).2)∧Hid (Ext (·=nb) w2 wx))
 case atStart=>exact ⟨0,Z2,rfl,Nat.zero_le _,rfl,HNB2,Lib.hid Own.nil,Jh (Ext.refl _ _)⟩
 case round =>
  obtain ⟨k,sv,hg,hk,rfl,HNB,HO,HX⟩:=hrel
  have HG:=Lib.hid hg
  have hwz:=HX.out.size
  clear hg
  by_cases hlt:k<L.length
  ·obtain ⟨⟨nm,vl⟩,hx⟩:∃ x,L[k]?=some x:=⟨_,List.getElem?_eq_getElem hlt⟩
   have hkk:(k:Int)<(L.length:Int):=by omega
   have hk0:(0:Int)≤(k:Int):=by omega
   have hw4:=HOW.out.ext HX.out (fun j hj e=>by have:=(HOW.out.blk j hj).1;omega)
   obtain ⟨ba,oa,ca1,e1,hcs⟩:=(hw4.slice (fun _=>rfl)).acells (by intro e;rw[e] at hlt;simp at hlt)
   cases e1
   have hba:=(HOW.out.blk ba rfl)
   obtain ⟨y0,y1⟩:=hcs k _ hx
   simp only at y0 y1
   have HST:=Jh (So hx)
   have hpl:=Rv (L.take k)
   rw[List.length_take] at hpl
   have hpl2:(Yu (L.take k)).2.length≤1000000:=by omega
   obtain ⟨kd,hkd⟩:=Je ((Yu (L.take k)).1)
   obtain ⟨al,hal⟩:=Je ((Yu (L.take k)).2)
   have HRP:Hid (Yu (L.take k)=(kd,al)):=Jh (by rw[←hkd,←hal])
   rw[hkd] at HNB
   rw[hal] at HO hpl2
   clear hx hcs hw4 hpl hkd hal
   by_cases hv:vl=⟨#[]⟩
   ·subst hv
    go_wp2_with fail
    go_roundg (L.length - (k+1))
    case measure=>rw[HG.out];omega
    case rel =>
     refine ⟨k+1,sv,rfl,hlt,by go_num,?_,?_,HX⟩
     ·rw[HST.out,HRP.out];unfold Y8;rw[if_pos rfl];exact Jh (HNB.out)
     ·rw[HST.out,HRP.out];unfold Y8;rw[if_pos rfl];exact Jh (HO.out)
   ·have hv1:(vl.toList == [])=false:=by
     cases h:(vl.toList == []) with
     | false=>rfl
     | true=>exact absurd ((ZS vl ⟨#[]⟩).1 (by simpa using eq_of_beq h)) hv
    have hv2:(vl == ⟨#[]⟩)=false:=by rw[Xc];simp[hv]
    have HV:=Lib.hid hv
    clear hv
    by_cases hn:nm=Va
    ·subst hn
     obtain ⟨g0,g1,g2,g3,g4,g5,gf⟩:=HNB.out.cells
     have gf2:=gf 2
     clear gf g0 g1 g3 g4 g5
     have hnw:=HNB.out.lt
     unfold Va at y0
     go_wp2_with fail
     go_roundg (L.length - (k+1))
     case measure=>rw[HG.out];omega
     case rel =>
      refine ⟨k+1,sv,rfl,hlt,by go_num,?_,?_,Jh (HX.out.setCell (p:=⟨nb,2,none⟩) (.inr rfl) _)⟩
      ·rw[HST.out,HRP.out];unfold Y8;rw[if_neg HV.out,if_pos rfl];exact Jh (HNB.out.setKind vl)
      ·rw[HST.out,HRP.out];unfold Y8;rw[if_neg HV.out,if_pos rfl];exact Jh (HO.out.ext (S:=(·=nb)) ((Ext.refl (·=nb) wr).setCell (p:=⟨nb,2,none⟩) (.inr rfl) _) (fun j hj e=>by have:=(HO.out.blk j hj).1;omega))
    ·have hn1:(nm.toList == [107,105,110,100])=false:=by
      cases h:(nm.toList == [107,105,110,100]) with
      | false=>rfl
      | true=>exact absurd ((ZS nm Va).1 (by simpa [Va] using eq_of_beq h)) hn
     have hn2:(nm == ⟨#[107,105,110,100]⟩)=false:=by rw[Xc];simp;exact hn
     have HN:=Lib.hid hn
     clear hn
     obtain ⟨sa,sn,sc⟩:=sv
     obtain ⟨g0,g1,g2,g3,g4,g5,gf⟩:=HNB.out.cells
     clear gf g0 g1 g2 g4 g5
     have hnw:=HNB.out.lt
     simp only at g3
     go_upto_region 6 with fail
     have hS0:(fun W:World=>W.cell? ⟨nb,3,none⟩=some (.slice sa sn sc)∧W.cell? ⟨ba,oa+k*2,none⟩=some (.string nm)∧W.cell? ⟨ba,oa+k*2+1,none⟩=some (.string vl)) wr.drew:=⟨g3,y0,y1⟩
     have hod:=HO.out.drew
     have hbk:∀ j,(Sl.mk sa sn sc).val.ownBlock=some j→w2.heap.size≤j∧j<wr.heap.size:=fun j hj=>HO.out.blk j hj
     obtain ⟨v8,w8,hr8,hown8,hx8,hfr8⟩:=Yt (P:=Tryz.prog) 24 24 i0 (.agg #[.string ⟨#[]⟩,.string ⟨#[]⟩]) 32 Tryz.underlying24 hi hz0 hz1q hz2q rfl (by omega) (fun _=>rfl) (fun x u hu=>by simp[Atr.cells] at hu;rcases hu with rfl|rfl <;> rfl) (hod.alloc (.cells (Atr.cells ⟨nm,vl⟩).toArray 73)) ⟨nm,vl⟩ wr.drew.heap.size 1 (fun j u hj=>ZF j u hj) (by unfold maxLen;omega) (by omega) (by simp;omega)
     obtain ⟨⟨g8,n8,c8⟩,rfl⟩:=hown8.sl20
     simp only[Sl.val] at hr8
     have hxw:Ext (·=nb) w2 w8:=Ext.new2 ((HX.out.drew).alloc _) hx8 (fun j hj e=>by have:=(hbk j e).1;omega)
     have hnb8:=(HNB.out.ext (((Ext.refl (fun _=>False) wr).drew).alloc (.cells (Atr.cells ⟨nm,vl⟩).toArray 73)) (fun f=>f)).ext hx8 (fun e=>by have:=(hbk _ e).1;omega)
     obtain ⟨-,-,-,z3,-,-,zf⟩:=hnb8.cells
     have zf3:=zf 3
     simp only at z3
     have hS8:(fun W:World=>W.cell? ⟨nb,3,none⟩=some (.slice sa sn sc)∧W.cell? ⟨ba,oa+k*2,none⟩=some (.string nm)∧W.cell? ⟨ba,oa+k*2+1,none⟩=some (.string vl)) w8:=⟨z3,hx8.keep (Z1 y0 _) (fun e=>by have:=(hbk _ e).1;omega),hx8.keep (Z1 y1 _) (fun e=>by have:=(hbk _ e).1;omega)⟩
     have hS7:(fun W:World=>W.cell? ⟨nb,3,none⟩=some (.slice sa sn sc)∧W.cell? ⟨ba,oa+k*2,none⟩=some (.string nm)∧W.cell? ⟨ba,oa+k*2+1,none⟩=some (.string vl)) (wr.drew.alloc (.cells (Atr.cells ⟨nm,vl⟩).toArray 73)):=⟨Z1 g3 _,Z1 y0 _,Z1 y1 _⟩
     refine Zf (fun W:World=>W.cell? ⟨nb,3,none⟩=some (.slice sa sn sc)∧W.cell? ⟨ba,oa+k*2,none⟩=some (.string nm)∧W.cell? ⟨ba,oa+k*2+1,none⟩=some (.string vl)) (fun i=>i == 9) (by kernel_rfl) ?_
     refine J3 0 24 _ hS0 ?_
     try simp only[Ja]
     refine J3 1 25 (.slice sa sn sc) hS0 ?_
     try simp only[Ja]
     refine J3 2 26 _ hS0 ?_
     try simp only[Ja]
     refine J3 3 27 _ hS0 ?_
     try simp only[Ja]
     refine J3 4 28 _ hS0 ?_
     try simp only[Ja]
     refine J3 5 29 (.agg #[.string nm,.string vl]) hS0 ?_
     try simp only[Ja]
     refine Zk (i:=6) (d:=some 30) (v:=.slice (some ⟨wr.drew.heap.size,0,none⟩) 1 1) (w':=wr.drew.alloc (.cells (Atr.cells ⟨nm,vl⟩).toArray 73)) (by kernel_rfl) rfl rfl (by rfl) (by simp only[Atr.cells];go_simp;try rfl) (fun _=>hS7) ?_
     try simp only[Ja]
     refine Zk (i:=7) (d:=some 31) (v:=.slice g8 n8 c8) (w':=w8) (by kernel_rfl) rfl rfl (by rfl) (Ym rfl rfl rfl hr8) (fun _=>hS8) ?_
     try simp only[Ja]
     refine J3 8 32 _ hS8 ?_
     try simp only[Ja]
     refine Zg (i:=9) (d:=none) (w':=w8.setCell ⟨nb,3,none⟩ (.slice g8 n8 c8)) (by kernel_rfl) rfl rfl (by rfl) (by go_simp;try rfl) (fun h=>by cases h) ?_
     try simp only[Ja]
     refine Zd (by kernel_rfl) ?_ _
     have HN8:=Jh (hnb8.setAttrs ⟨g8,n8,c8⟩)
     have HO8:=Jh (hown8.ext (S:=(·=nb)) ((Ext.refl (·=nb) w8).setCell (p:=⟨nb,3,none⟩) (.inr rfl) (.slice g8 n8 c8)) (fun j hj e=>by have:=(hown8.blk j hj).1;(try simp only at e);omega))
     have HX8:=Jh (hxw.setCell (p:=⟨nb,3,none⟩) (.inr rfl) (.slice g8 n8 c8))
     clear hS0 hS7 hS8 hr8 hown8 hx8 hfr8 hxw hnb8 z3 zf zf3 g3 y0 y1 hod
     generalize w8.setCell ⟨nb,3,none⟩ (.slice g8 n8 c8)=w9 at *
     go_wp2_with fail
     go_roundg (L.length - (k+1))
     case measure=>rw[HG.out];omega
     case rel =>
      refine ⟨k+1,⟨g8,n8,c8⟩,rfl,hlt,by go_num,?_,?_,HX8⟩
      ·rw[HST.out,HRP.out];unfold Y8;rw[if_neg HV.out,if_neg HN.out];exact Jh (HN8.out)
      ·rw[HST.out,HRP.out];unfold Y8;rw[if_neg HV.out,if_neg HN.out];exact Jh (HO8.out)
  ·obtain rfl:k=L.length:=by omega
   have hkk:¬ (L.length:Int)<(L.length:Int):=by omega
   rw[List.take_length] at HNB HO
   have HBr:=Jh (Ext.new HB2.out HX.out (fun i hi _ e=>by (try simp only at e);omega) HB2.out.size)
   have HWr:=Jh (HW0.out.below HBr.out)
   have HWBr:=Jh (HWB2.out.ext HX.out (fun e=>by (try simp only at e);omega))
   have HRBr:=Jh (HRB2.out.ext HX.out (fun e=>by (try simp only at e);omega))
   have HXr:=Jh (And.intro (HX.out.keep HX2.out.1 (by show ¬ w.heap.size+1=nb;omega)) (HX.out.keep HX2.out.2 (by show ¬ w.heap.size+1=nb;omega)))
   clear hlt hk HNB2 HW2 HWB2 HRB2 HX2 HB2 HX
   obtain ⟨c0,-,-,-⟩:=HWBr.out.cells
   go_wp2_with fail
   refine (Tu _ b.l wr HWr.out.el (by have:=HWr.out.ln;omega)).mono ?_
   rintro e w5 ⟨u5,rfl,hown5,b5⟩
   rcases hown5.eq_slice with ⟨_,e⟩|⟨gb,cs,e5,hg1,hg2⟩
   ·exact absurd e (by obtain ⟨n0,R,e2⟩:=Xo b.l;rw[e2];exact List.cons_ne_nil _ _)
   obtain ⟨N,hN⟩:=Je ((ZW b.l).length)
   rw[hN] at e5
   subst e5
   have hN1:1≤N:=by obtain ⟨n0,R,e2⟩:=Xo b.l;rw[e2,List.length_cons] at hN;omega
   have hN2:N≤1000:=by have:=UD b.l;have:=HWr.out.ln;omega
   have HNN:=Lib.hid hN
   have HO5:=Lib.hid hown5
   have hz5:=b5.size
   have HB5:=Jh (HBr.out.trans (b5.mono HBr.out.size))
   have HNB5:=Jh (HNB.out.ext (Ext.of_below (S:=fun _=>False) b5) (fun f=>f))
   have HAT5:=Jh (HO.out.ext (Ext.of_below (S:=fun _=>False) b5) (fun _ _ f=>f))
   have HWB5:=Jh (HWBr.out.ext (Ext.of_below (S:=fun _=>False) b5) (fun f=>f))
   have HRB5:=Jh (HRBr.out.ext (Ext.of_below (S:=fun _=>False) b5) (fun f=>f))
   have HX5:=Jh (And.intro (Z0 b5 HXr.out.1) (Z0 b5 HXr.out.2))
   have hnw5:nb<w5.heap.size:=by omega
   clear hown5 hN b5 HNB HO HWBr HRBr HXr HBr HWr c0 hkk HOW
   go_wp2_with fail
   go_loopg [11] (N - 1) (fun g iv wx=>∃ (k:Nat) (ts:Sl),g=N - k∧1≤k∧k≤N∧iv=.int .i64 k∧Hid (NdB wx nb u (Yu L).1 sv ts Z2)∧Hid (Hit b.l u k→Y4 (fun j=>w5.heap.size≤j) wx (.slice ts.a ts.n ts.cap) (V.txt u))∧Hid (Ext (·=nb) w5 wx))
   case atStart=>exact ⟨1,Z2,rfl,Nat.le_refl _,hN1,rfl,HNB5,Jh (fun ⟨j,x,h1,h2,_⟩=>by omega),Jh (Ext.refl _ _)⟩
   case round =>
    obtain ⟨k,ts,hg,hk1,hk,rfl,HNB,HT,HX⟩:=hrel
    have HG:=Lib.hid hg
    have hwz:=HX.out.size
    clear hg
    have hbr:=HB5.out
    have HBw:=Jh (Ext.new HB5.out HX.out (fun i hi _ e=>by (try simp only at e);omega) HB5.out.size)
    have HWw:=Jh (HW0.out.below HBw.out)
    have HWBw:=Jh (HWB5.out.ext HX.out (fun e=>by (try simp only at e);omega))
    have HXw:=Jh (And.intro (HX.out.keep HX5.out.1 (by show ¬ w.heap.size+1=nb;omega)) (HX.out.keep HX5.out.2 (by show ¬ w.heap.size+1=nb;omega)))
    clear hbr
    obtain ⟨c0,c1,c2x,c3⟩:=HWBw.out.cells
    obtain ⟨x0,x1⟩:=HXw.out
    by_cases hlt:k<N
    ·obtain ⟨x,hx⟩:∃ x,(ZW b.l)[k]?=some x:=⟨_,List.getElem?_eq_getElem (by rw[HNN.out];exact hlt)⟩
     have hkk:(k:Int)<(N:Int):=by omega
     have hk0:(0:Int)≤(k:Int):=by omega
     have hw4:=HO5.out.ext HX.out (fun j hj e=>by have:=(HO5.out.blk j hj).1;(try simp only at e);omega)
     obtain ⟨ba,oa,ca1,e1,hcs⟩:=(hw4.slice (fun _=>rfl)).spcells (by intro e;have:=HNN.out;rw[e,List.length_nil] at this;omega)
     rw[HNN.out] at e1
     cases e1
     obtain ⟨y0,y1,y2,y3⟩:=hcs k x hx
     simp only[Nat.zero_add] at y0 y1 y2 y3
     have HXX:=Lib.hid hx
     obtain ⟨⟨xn,xr⟩,xlo,xhi⟩:=x
     simp only at y0 y1 y2 y3
     clear hx hcs hw4
     by_cases hq:(⟨xn,xr⟩:St)=u
     ·obtain ⟨hq1,hq2⟩:xn=u.n∧xr=u.r:=by rw[←hq];exact ⟨rfl,rfl⟩
      subst hq1
      subst hq2
      clear hq
      go_upto_region 14 with fail
      have hS0:(fun W:World=>W.cell? ⟨gb,k*4,none⟩=some (.int .i64 u.n)∧W.cell? ⟨gb,k*4+1,none⟩=some (.int .i64 u.r)∧W.cell? ⟨w.heap.size+1,0,none⟩=some (.int .i64 u.n)∧W.cell? ⟨w.heap.size+1,1,none⟩=some (.int .i64 u.r)) wr.drew:=⟨y0,y1,x0,x1⟩
      refine Zf (fun W:World=>W.cell? ⟨gb,k*4,none⟩=some (.int .i64 u.n)∧W.cell? ⟨gb,k*4+1,none⟩=some (.int .i64 u.r)∧W.cell? ⟨w.heap.size+1,0,none⟩=some (.int .i64 u.n)∧W.cell? ⟨w.heap.size+1,1,none⟩=some (.int .i64 u.r)) (fun _=>false) (by kernel_rfl) ?_
      refine J4 0 62 _ hS0 ?_
      try simp only[Ja]
      refine J4 1 63 _ hS0 ?_
      try simp only[Ja]
      refine J4 2 64 _ hS0 ?_
      try simp only[Ja]
      refine J4 3 65 _ hS0 ?_
      try simp only[Ja]
      refine J4 4 66 (.agg #[.int .i64 u.n,.int .i64 u.r]) hS0 ?_
      try simp only[Ja]
      refine J4 5 67 (.agg #[.int .i64 u.n,.int .i64 u.r]) hS0 ?_
      try simp only[Ja]
      refine J4 6 68 (.bool true) hS0 ?_
      try simp only[Ja]
      refine Zd (by kernel_rfl) ?_ _
      clear hS0
      go_upto_region 15 with fail
      have HS:Hid (∀ W,Below wr.heap.size wr W→W.cell? ⟨w.heap.size,0,none⟩=some (.slice b.va b.l.length b.ca)∧W.cell? ⟨w.heap.size,3,none⟩=some (.slice b.vb b.ms.length b.cb)∧W.cell? ⟨gb,k*4,none⟩=some (.int .i64 u.n)∧W.cell? ⟨gb,k*4+1,none⟩=some (.int .i64 u.r)∧W.cell? ⟨gb,k*4+2,none⟩=some (.int .i64 xlo)∧W.cell? ⟨gb,k*4+3,none⟩=some (.int .i64 xhi)):=Jh (fun W hW=>⟨Z0 hW c0,Z0 hW c3,Z0 hW y0,Z0 hW y1,Z0 hW y2,Z0 hW y3⟩)
      have hbd:Below wr.heap.size wr wr.drew.drew:=(Below.refl _ _).drew.drew
      have hS0:(fun W:World=>W.cell? ⟨w.heap.size,0,none⟩=some (.slice b.va b.l.length b.ca)∧W.cell? ⟨w.heap.size,3,none⟩=some (.slice b.vb b.ms.length b.cb)∧W.cell? ⟨gb,k*4,none⟩=some (.int .i64 u.n)∧W.cell? ⟨gb,k*4+1,none⟩=some (.int .i64 u.r)∧W.cell? ⟨gb,k*4+2,none⟩=some (.int .i64 xlo)∧W.cell? ⟨gb,k*4+3,none⟩=some (.int .i64 xhi)) wr.drew.drew:=HS.out _ hbd
      refine Zf (fun W:World=>W.cell? ⟨w.heap.size,0,none⟩=some (.slice b.va b.l.length b.ca)∧W.cell? ⟨w.heap.size,3,none⟩=some (.slice b.vb b.ms.length b.cb)∧W.cell? ⟨gb,k*4,none⟩=some (.int .i64 u.n)∧W.cell? ⟨gb,k*4+1,none⟩=some (.int .i64 u.r)∧W.cell? ⟨gb,k*4+2,none⟩=some (.int .i64 xlo)∧W.cell? ⟨gb,k*4+3,none⟩=some (.int .i64 xhi)) (fun i=>i == 10) (by kernel_rfl) ?_
      refine JR 0 69 _ rfl rfl hS0 (fun W hW=>by obtain ⟨q0,q1,q2,q3,q4,q5⟩:=hW;go_simp;try rfl) ?_
      try simp only[Ja]
      refine JR 1 70 (.slice b.va b.l.length b.ca) rfl rfl hS0 (fun W hW=>by obtain ⟨q0,q1,q2,q3,q4,q5⟩:=hW;go_simp;try rfl) ?_
      try simp only[Ja]
      refine JR 2 71 _ rfl rfl hS0 (fun W hW=>by obtain ⟨q0,q1,q2,q3,q4,q5⟩:=hW;go_simp;try rfl) ?_
      try simp only[Ja]
      refine JR 3 72 _ rfl rfl hS0 (fun W hW=>by obtain ⟨q0,q1,q2,q3,q4,q5⟩:=hW;go_simp;try rfl) ?_
      try simp only[Ja]
      refine JR 4 73 _ rfl rfl hS0 (fun W hW=>by obtain ⟨q0,q1,q2,q3,q4,q5⟩:=hW;go_simp;try rfl) ?_
      try simp only[Ja]
      refine JR 5 74 (.agg #[.int .i64 u.n,.int .i64 u.r,.int .i64 xlo,.int .i64 xhi]) rfl rfl hS0 (fun W hW=>by obtain ⟨q0,q1,q2,q3,q4,q5⟩:=hW;go_simp;try rfl) ?_
      try simp only[Ja]
      refine JR 6 75 _ rfl rfl hS0 (fun W hW=>by obtain ⟨q0,q1,q2,q3,q4,q5⟩:=hW;go_simp;try rfl) ?_
      try simp only[Ja]
      refine JR 7 76 (.slice b.vb b.ms.length b.cb) rfl rfl hS0 (fun W hW=>by obtain ⟨q0,q1,q2,q3,q4,q5⟩:=hW;go_simp;try rfl) ?_
      try simp only[Ja]
      refine ZB (i:=8) (d:=some 77) (w':=wr.drew.drew) (by kernel_rfl) rfl rfl (by rfl) (by go_simp;try rfl) ((Ta b.va b.vb b.ca b.cb b.l b.ms u.n u.r xlo xhi wr.drew.drew (HWw.out.below hbd).el (HWw.out.below hbd).op (by have:=HWw.out.ln;omega) (by have:=HWw.out.ln;omega)).mono ?_)
      rintro e w6 ⟨q,rfl,hq,b6⟩
      obtain ⟨qs,rfl⟩:=hq.out.sl
      have hb6:Below wr.heap.size wr w6:=hbd.trans b6
      have hz6:=hb6.size
      have hnb6:=HNB.out.ext (Ext.of_below (S:=fun _=>False) hb6) (fun f=>f)
      obtain ⟨-,-,-,-,z4,-,zf⟩:=hnb6.cells
      have zf4:=zf 4
      clear zf
      refine ⟨_,rfl,fun _=>HS.out _ hb6,?_⟩
      try simp only[Ja]
      refine Xf (i:=9) (d:=some 78) rfl rfl rfl (by kernel_rfl) (by kernel_rfl) (by kernel_rfl) (by kernel_rfl) (fun _ _ _ h=>h) (.inl ⟨by rfl,fun W hW=>by obtain ⟨q0,q1,q2,q3,q4,q5⟩:=hW;go_simp;try rfl⟩) (HS.out _ hb6) ?_
      try simp only[Ja]
      refine Zg (i:=10) (d:=none) (w':=w6.setCell ⟨nb,4,none⟩ (.slice qs.a qs.n qs.cap)) (by kernel_rfl) rfl rfl (by rfl) (by go_simp;try rfl) (fun h=>by cases h) ?_
      try simp only[Ja]
      refine Zd (by kernel_rfl) ?_ _
      have hxd:Ext (·=nb) w6 (w6.setCell ⟨nb,4,none⟩ (.slice qs.a qs.n qs.cap)):=(Ext.refl (·=nb) w6).setCell (p:=⟨nb,4,none⟩) (.inr rfl) _
      have htx:V.txt u=Y9 b.l b.ms xlo xhi:=HW0.out.tx u _ (Z1o HW0.out.ul hk1 HXX.out)
      have hqd:=hq.out.toD
      rw[←htx] at hqd
      have HTn:Hid (Hit b.l u (k+1)→Y4 (fun j=>w5.heap.size≤j) (w6.setCell ⟨nb,4,none⟩ (.slice qs.a qs.n qs.cap)) (.slice qs.a qs.n qs.cap) (V.txt u)):=Jh (fun _=>(hqd.ext hxd (fun j hj _ e=>by have:wr.drew.drew.heap.size=wr.heap.size:=rfl;(try simp only at e);omega)).mono (fun j hj=>by have:wr.drew.drew.heap.size=wr.heap.size:=rfl;omega))
      have HNn:=Jh (hnb6.setText qs)
      have HXn:=Jh ((HX.out.trans (Ext.of_below hb6)).trans hxd)
      clear hS0 HS z4 zf4 hnb6 hxd hqd hq b6 hb6 HT HNB HX x0 x1 y0 y1 y2 y3 c0 c1 c2x c3 HXw HWBw HWw HBw hbd htx
      generalize w6.setCell ⟨nb,4,none⟩ (.slice qs.a qs.n qs.cap)=w7 at *
      go_wp2_with fail
      go_roundg (N - (k+1))
      case measure=>rw[HG.out];omega
      case rel=>exact ⟨k+1,qs,rfl,by omega,hlt,by go_num,HNn,HTn,HXn⟩
     ·have HQ:=Lib.hid hq
      by_cases hq1:xn=u.n
      ·have hq2:¬ xr=u.r:=fun e=>hq (by rw[hq1,e])
       subst hq1
       clear hq
       go_upto_region 14 with fail
       have hS0:(fun W:World=>W.cell? ⟨gb,k*4,none⟩=some (.int .i64 u.n)∧W.cell? ⟨gb,k*4+1,none⟩=some (.int .i64 xr)∧W.cell? ⟨w.heap.size+1,0,none⟩=some (.int .i64 u.n)∧W.cell? ⟨w.heap.size+1,1,none⟩=some (.int .i64 u.r)) wr.drew:=⟨y0,y1,x0,x1⟩
       refine Zf (fun W:World=>W.cell? ⟨gb,k*4,none⟩=some (.int .i64 u.n)∧W.cell? ⟨gb,k*4+1,none⟩=some (.int .i64 xr)∧W.cell? ⟨w.heap.size+1,0,none⟩=some (.int .i64 u.n)∧W.cell? ⟨w.heap.size+1,1,none⟩=some (.int .i64 u.r)) (fun _=>false) (by kernel_rfl) ?_
       refine J4 0 62 _ hS0 ?_
       try simp only[Ja]
       refine J4 1 63 _ hS0 ?_
       try simp only[Ja]
       refine J4 2 64 _ hS0 ?_
       try simp only[Ja]
       refine J4 3 65 _ hS0 ?_
       try simp only[Ja]
       refine J4 4 66 (.agg #[.int .i64 u.n,.int .i64 xr]) hS0 ?_
       try simp only[Ja]
       refine J4 5 67 (.agg #[.int .i64 u.n,.int .i64 u.r]) hS0 ?_
       try simp only[Ja]
       refine J4 6 68 (.bool false) hS0 ?_
       try simp only[Ja]
       refine Zd (by kernel_rfl) ?_ _
       clear hS0
       have HTn:Hid (Hit b.l u (k+1)→Y4 (fun j=>w5.heap.size≤j) wr.drew (.slice ts.a ts.n ts.cap) (V.txt u)):=Jh (fun h=>(HT.out (Qv HXX.out HQ.out h)).ext (Ext.refl (fun _=>False) wr).drew (fun _ _ _ f=>f))
       have HNn:Hid (NdB wr.drew nb u (Yu L).1 sv ts Z2):=Lib.hid HNB.out
       have HXn:=Lib.hid HX.out.drew
       clear HT HNB HX x0 x1 y0 y1 y2 y3 c0 c1 c2x c3 HXw HWBw HWw HBw
       go_wp2_with fail
       go_roundg (N - (k+1))
       case measure=>rw[HG.out];omega
       case rel=>exact ⟨k+1,ts,rfl,by omega,hlt,by go_num,HNn,HTn,HXn⟩
      ·clear hq
       go_upto_region 14 with fail
       have hS0:(fun W:World=>W.cell? ⟨gb,k*4,none⟩=some (.int .i64 xn)∧W.cell? ⟨gb,k*4+1,none⟩=some (.int .i64 xr)∧W.cell? ⟨w.heap.size+1,0,none⟩=some (.int .i64 u.n)∧W.cell? ⟨w.heap.size+1,1,none⟩=some (.int .i64 u.r)) wr.drew:=⟨y0,y1,x0,x1⟩
       refine Zf (fun W:World=>W.cell? ⟨gb,k*4,none⟩=some (.int .i64 xn)∧W.cell? ⟨gb,k*4+1,none⟩=some (.int .i64 xr)∧W.cell? ⟨w.heap.size+1,0,none⟩=some (.int .i64 u.n)∧W.cell? ⟨w.heap.size+1,1,none⟩=some (.int .i64 u.r)) (fun _=>false) (by kernel_rfl) ?_
       refine J4 0 62 _ hS0 ?_
       try simp only[Ja]
       refine J4 1 63 _ hS0 ?_
       try simp only[Ja]
       refine J4 2 64 _ hS0 ?_
       try simp only[Ja]
       refine J4 3 65 _ hS0 ?_
       try simp only[Ja]
       refine J4 4 66 (.agg #[.int .i64 xn,.int .i64 xr]) hS0 ?_
       try simp only[Ja]
       refine J4 5 67 (.agg #[.int .i64 u.n,.int .i64 u.r]) hS0 ?_
       try simp only[Ja]
       refine J4 6 68 (.bool false) hS0 ?_
       try simp only[Ja]
       refine Zd (by kernel_rfl) ?_ _
       clear hS0
       have HTn:Hid (Hit b.l u (k+1)→Y4 (fun j=>w5.heap.size≤j) wr.drew (.slice ts.a ts.n ts.cap) (V.txt u)):=Jh (fun h=>(HT.out (Qv HXX.out HQ.out h)).ext (Ext.refl (fun _=>False) wr).drew (fun _ _ _ f=>f))
       have HNn:Hid (NdB wr.drew nb u (Yu L).1 sv ts Z2):=Lib.hid HNB.out
       have HXn:=Lib.hid HX.out.drew
       clear HT HNB HX x0 x1 y0 y1 y2 y3 c0 c1 c2x c3 HXw HWBw HWw HBw
       go_wp2_with fail
       go_roundg (N - (k+1))
       case measure=>rw[HG.out];omega
       case rel=>exact ⟨k+1,ts,rfl,by omega,hlt,by go_num,HNn,HTn,HXn⟩
    ·obtain rfl:k=N:=by omega
     have hkk:¬ (k:Int)<(k:Int):=by omega
     have hhit:=Z3a HSP.out
     rw[HNN.out] at hhit
     have HTX:=Jh (HT.out hhit)
     clear hhit hlt HT
     obtain ⟨g0,g1,g2,g3,g4,g5,gf⟩:=HNB.out.cells
     skip
     go_wp2_with fail
     refine (HR.out u wr HWw.out).mono ?_
     rintro e w6 ⟨kv,us,rfl,hown6,hn6,b6⟩
     obtain ⟨ks,rfl⟩:=hown6.sl20
     have hb6:Below wr.heap.size wr w6:=b6
     have hz6:=hb6.size
     have hnb6:=HNB.out.ext (Ext.of_below (S:=fun _=>False) hb6) (fun f=>f)
     obtain ⟨-,-,-,-,-,z5,zf⟩:=hnb6.cells
     have zf5:=zf 5
     clear zf
     simp only[Z2] at z5
     go_upto_region 17 with fail
     have hxd:Ext (·=nb) w6 (w6.setCell ⟨nb,5,none⟩ (.slice ks.a ks.n ks.cap)):=(Ext.refl (·=nb) w6).setCell (p:=⟨nb,5,none⟩) (.inr rfl) _
     have hxr:Ext (·=nb) w5 (w6.setCell ⟨nb,5,none⟩ (.slice ks.a ks.n ks.cap)):=(HX.out.trans (Ext.of_below hb6)).trans hxd
     have HNn:=Jh (hnb6.setKids ks)
     have HTn:=Jh ((HTX.out.ext (Ext.of_below (S:=fun _=>False) hb6) (fun _ _ _ f=>f)).ext hxd (fun j hj _ e=>by (try simp only at e);omega))
     have HAn:=Jh (HAT5.out.ext hxr (fun j hj e=>by have:=(HAT5.out.blk j hj).1;(try simp only at e);omega))
     have hk6:=hown6.sliceD NdV.len
     have HKn:=Jh ((hk6.mono (D':=fun j=>wr.heap.size≤j) (fun j hj=>(hown6.blk j hj).1)).ext hxd (fun j hj _ e=>by (try simp only at e);omega) (fun _=>Nat.zero_lt_succ 5))
     have HSn:=Jh ((hn6.mono (D':=fun j=>wr.heap.size≤j) (fun j hj=>hj.1)).ext hxd (fun j hj _ e=>by (try simp only at e);omega))
     have hrn:=HRB5.out.ext hxr (fun e=>by (try simp only at e);omega)
     have HRn:=Lib.hid hrn
     have HBn:=Jh (Ext.new HB5.out hxr (fun i hi _ e=>by (try simp only at e);omega) HB5.out.size)
     have hsz7:=hxr.size
     clear z5 zf5 hnb6 hxd hxr hk6 hown6 hn6 b6 hb6 HNB HX x0 x1 c0 c1 c2x c3 g0 g1 g2 g3 g4 g5 gf HXw HWBw HWw HBw hrn
     generalize w6.setCell ⟨nb,5,none⟩ (.slice ks.a ks.n ks.cap)=w7 at *
     obtain ⟨g0,g1,g2,g3,g4,g5,-⟩:=HNn.out.cells
     obtain ⟨r0,r1,r2,r3,r4,r5,rf⟩:=HRn.out.cells
     have rf0:=rf 0
     have rf1:=rf 1
     have rf2:=rf 2
     have rf3:=rf 3
     have rf4:=rf 4
     have rf5:=rf 5
     unfold Z2 at r3 r4 r5
     simp only at r0 r1 r2 r3 r4 r5
     clear rf
     go_wp2_with fail
     (try simp only[Exit.inBlock,Exit.then])
     refine bodyPost_ret (v:=.agg #[.int .i64 u.n,.int .i64 u.r,.string (Yu L).1,.slice sv.a sv.n sv.cap,.slice ts.a ts.n ts.cap,.slice ks.a ks.n ks.cap]) (by rw[X5 rfl];go_simp) rfl ?_
     have hfx:Ext (·=w.heap.size+2) w7 ((((((w7.setCell ⟨w.heap.size+2,0,none⟩ (.int .i64 u.n)).setCell ⟨w.heap.size+2,1,none⟩ (.int .i64 u.r)).setCell ⟨w.heap.size+2,2,none⟩ (.string (Yu L).1)).setCell ⟨w.heap.size+2,3,none⟩ (.slice sv.a sv.n sv.cap)).setCell ⟨w.heap.size+2,4,none⟩ (.slice ts.a ts.n ts.cap)).setCell ⟨w.heap.size+2,5,none⟩ (.slice ks.a ks.n ks.cap)) :=
      ((((((Ext.refl (·=w.heap.size+2) w7).setCell (p:=⟨w.heap.size+2,0,none⟩) (.inr rfl) _).setCell (p:=⟨w.heap.size+2,1,none⟩) (.inr rfl) _).setCell (p:=⟨w.heap.size+2,2,none⟩) (.inr rfl) _).setCell (p:=⟨w.heap.size+2,3,none⟩) (.inr rfl) _).setCell (p:=⟨w.heap.size+2,4,none⟩) (.inr rfl) _).setCell (p:=⟨w.heap.size+2,5,none⟩) (.inr rfl) _
     have hb5s:=HB5.out.size
     have ho2:=HAn.out.ext hfx (fun j hj e=>by have:=(HAn.out.blk j hj).1;(try simp only at e);omega)
     refine ⟨⟨u,(Yu L).1,sv,ts,ks⟩,rfl,?_,Ext.new HBn.out hfx (fun i hi _ e=>by (try simp only at e);omega) HBn.out.size⟩
     unfold Vw.nd
     rw[HLL.out]
     refine Zr.make rfl rfl ((ho2.sliceD (fun _=>rfl)).mono (fun j hj=>by have:=(ho2.blk j hj).1;omega)) ?_ (vs:=us) ?_ ?_
     ·exact (HTn.out.ext hfx (fun j hj _ e=>by (try simp only at e);omega)).mono (fun j hj=>by omega)
     ·exact (HKn.out.ext hfx (fun j hj _ e=>by (try simp only at e);omega) (fun _=>Nat.zero_lt_succ 5)).mono (fun j hj=>by omega)
     ·exact (HSn.out.ext hfx (fun j hj _ e=>by (try simp only at e);omega)).mono (fun j hj=>by omega)
theorem Z1v (V:Vw) (b:Rw):Ut V b 0:=by
 intro u w hB
 have hB0:Below w.heap.size w ((w.alloc (.cells #[.slice b.va b.l.length b.ca,.slice b.vk b.D.length b.ck,.pointer (some ⟨b.gp,0,none⟩),.slice b.vb b.ms.length b.cb] 121)).alloc (.cells #[.int .i64 u.n,.int .i64 u.r] 23)):=((Below.refl _ _).alloc (Nat.le_refl _) _).alloc (by simp) _
 have HB0:=Lib.hid hB0
 have HW1:=Jh (hB.below hB0)
 unfold Rw.val
 clear hB hB0
 go_enter Tryz.func56,Tryz.ntmps56
 go_upto_region 2 with fail
 have x0:((w.alloc (.cells #[.slice b.va b.l.length b.ca,.slice b.vk b.D.length b.ck,.pointer (some ⟨b.gp,0,none⟩),.slice b.vb b.ms.length b.cb] 121)).alloc (.cells #[.int .i64 u.n,.int .i64 u.r] 23)).cell? ⟨w.heap.size+1,0,none⟩=some (.int .i64 u.n):=by go_simp
 have x1:((w.alloc (.cells #[.slice b.va b.l.length b.ca,.slice b.vk b.D.length b.ck,.pointer (some ⟨b.gp,0,none⟩),.slice b.vb b.ms.length b.cb] 121)).alloc (.cells #[.int .i64 u.n,.int .i64 u.r] 23)).cell? ⟨w.heap.size+1,1,none⟩=some (.int .i64 u.r):=by go_simp
 have x2:((w.alloc (.cells #[.slice b.va b.l.length b.ca,.slice b.vk b.D.length b.ck,.pointer (some ⟨b.gp,0,none⟩),.slice b.vb b.ms.length b.cb] 121)).alloc (.cells #[.int .i64 u.n,.int .i64 u.r] 23)).cell? ⟨w.heap.size,1,none⟩=some (.slice b.vk b.D.length b.ck):=by go_simp
 generalize (w.alloc (.cells #[.slice b.va b.l.length b.ca,.slice b.vk b.D.length b.ck,.pointer (some ⟨b.gp,0,none⟩),.slice b.vb b.ms.length b.cb] 121)).alloc (.cells #[.int .i64 u.n,.int .i64 u.r] 23)=w1 at *
 go_wp2_with fail
 refine (TV _ b.D u.n u.r w1 HW1.out.al (by have:=HW1.out.ln;omega) HW1.out.ao).mono ?_
 rintro e w2 ⟨v2,K,rfl,hown2,hk,b2⟩
 obtain ⟨a2,c2,e2,hc2,hm2,-⟩:=hown2.slice (fun _=>rfl)
 rw[List.length_map] at e2
 subst e2
 have HF:Hid (Vj V 0 u w (.returned (.slice none 0 0)) w2):=Lib.hid ⟨_,[],rfl,Own.nil,Zb.nil,HB0.out.trans (b2.mono HB0.out.size)⟩
 clear hown2 hk b2 x0 x1 x2
 go_wp2_with fail
 go_loopg [7,9] 0 (fun g ov iv wx=>g=0∧ov=.slice none 0 0∧iv=.int .i64 0∧wx=w2)
 case atStart=>exact ⟨rfl,rfl,rfl,rfl⟩
 case round =>
  obtain ⟨hg,rfl,rfl,rfl⟩:=hrel
  by_cases hK:(0:Int)<(K.length:Int)
  ·go_wp2_with fail
   go_ret
   exact HF.out
  ·go_wp2_with fail
   go_ret
   exact HF.out
theorem VY (V:Vw) (b:Rw):∀ n,n≤100001→Ut V b n
 | 0,_=>Z1v V b
 | n+1,h=>Z1c V b n (by omega) (VY V b n (by omega)) (QN V b n (VY V b n (by omega)))
end Go.Proofs.YtlgipkemoldckaaGreatDoor
