/- OplogKeeps, part 5 of what the proof leans on (made short by a program). -/
import Derived.Test.YtgmdimbiipemhaaGreatDoorKeZ3
set_option linter.unusedSimpArgs false
set_option linter.unusedVariables false
set_option linter.unusedSectionVars false
set_option maxRecDepth 20000
set_option maxHeartbeats 30000000
namespace Go.Proofs.YtgmdimbiipemhaaGreatDoor
open Go.RowKit Go.Deep
def Wr (Ls:Nat→List Int) (o:OpD) (c q:Nat):List Int:=if q<c then Ls q++[fld o q] else Ls q
structure Wy (R base:Nat) (Ls:Nat→List Int) (A:Nat→Prop) (W:World):Prop where
 ex:∃ cs:Array Value,cs.size=21∧W.heap[R]?=some (.cells cs 100 (0,0))∧(∀ q,q<21→Own Zr 1 3 base W (cs.getD q undef) (Ls q)) ∧
  (∀ q r,q<21→r<21→q≠r→∀ k,(cs.getD q undef).ownBlock=some k→¬ (cs.getD r undef).ownBlock=some k)∧(∀ q,q<21→∀ k,(cs.getD q undef).ownBlock=some k→¬ A k)
theorem Wy.ext {R base:Nat} {Ls:Nat→List Int} {A A':Nat→Prop} {W W':World} {S:Nat→Prop} (h:Wy R base Ls A W) (hx:Ext S W W') (hR:¬ S R) (hS:∀ k,S k→A k∨W.heap.size≤k) (hA:∀ k,A' k→A k∨W.heap.size≤k):Wy R base Ls A' W':=by
 obtain ⟨cs,h1,h2,h3,h4,h5⟩:=h.ex
 have hlt:=(Array.getElem?_eq_some_iff.1 h2).1
 refine ⟨cs,h1,(hx.block _ hlt hR).trans h2,fun q hq=>(h3 q hq).ext hx (fun k hk e=>?_),h4,fun q hq k hk ha=>?_⟩
 ·rcases hS k e with e|e
  ·exact h5 q hq k hk e
  ·have:=((h3 q hq).blk k hk).2;omega
 ·rcases hA k ha with e|e
  ·exact h5 q hq k hk e
  ·have:=((h3 q hq).blk k hk).2;omega
def JE (R Br Bc base:Nat) (Ls:Nat→List Int) (o:OpD) (c:Nat) (A:Nat→Prop) (W:World):Prop :=
 Wy R base (Wr Ls o c) A W∧W.heap[Br]?=some (.cells #[.slice (some ⟨R,0,none⟩) 21 21] 161 (0,0))∧W.heap[Bc]?=some (.cells #[.int .i64 c] 3 (0,0)) ∧
 (¬ A R∧¬ A Br∧¬ A Bc)∧(R≠Br∧R≠Bc∧Br≠Bc∧R<base∧Br<base∧Bc<W.heap.size)∧base≤W.heap.size∧(∀ k,A k→k<W.heap.size)∧(∀ cs,W.heap[R]?=some (.cells cs 100 (0,0))→∀ q,q<21→¬ (cs.getD q undef).ownBlock=some Bc)
theorem JE.jok (R Br Bc base b:Nat) (Ls:Nat→List Int) (o:OpD):JOK b (JE R Br Bc base Ls o):=by
 rintro c A A' W W' ⟨h1,h2,h3,⟨h4,h5,h6⟩,h7,h8,h9,h10⟩ hx hA hb
 have l1:=(Array.getElem?_eq_some_iff.1 h2).1
 have l2:=(Array.getElem?_eq_some_iff.1 h3).1
 obtain ⟨cs0,_,hR0,_⟩:=h1.ex
 have l0:=(Array.getElem?_eq_some_iff.1 hR0).1
 have hs:=hx.size
 have nb:∀ {x:Nat},¬ A x→¬ x=b:=fun h e=>h (by rw[e];exact hb)
 have nA:∀ {x:Nat},¬ A x→x<W.heap.size→¬ A' x:=fun h hl ha=>(hA _ ha).elim h (fun e=>by omega)
 refine ⟨h1.ext hx (nb h4) (fun k e=>.inl (by rw[e];exact hb)) (fun k ha=>(hA k ha).imp id (fun e=>e.1)),(hx.block _ l1 (nb h5)).trans h2,(hx.block _ l2 (nb h6)).trans h3,⟨nA h4 l0,nA h5 l1,nA h6 l2⟩,⟨h7.1,h7.2.1,h7.2.2.1,h7.2.2.2.1,h7.2.2.2.2.1,by omega⟩,by omega,fun k hk=>(hA k hk).elim (fun e=>by have:=h9 k e;omega) (fun e=>e.2),fun cs hcs=>h10 cs ((hx.block _ l0 (nb h4)).symm.trans hcs)⟩
theorem Tx (cs:Array Value) (c q:Nat) (v:Value) (hc:c<cs.size):(cs.setIfInBounds c v).getD q undef=if q=c then v else cs.getD q undef:=by
 simp only[Array.getD_eq_getD_getElem?]
 by_cases h:q=c
 ·subst h;simp[hc]
 ·rw[if_neg h,Array.getElem?_setIfInBounds_ne (Ne.symm h)]
theorem Z69 (R Br Bc base:Nat) (Ls:Nat→List Int) (o:OpD) (hln:∀ q,(Ls q).length≤1000000):SQ Tryz.prog 93 #[.pointer (some ⟨Br,0,none⟩),.pointer (some ⟨Bc,0,none⟩)] (fld o) (fld o) (JE R Br Bc base Ls o):=by
 rintro c A W pb po hc ⟨hr,hBr,hBc,⟨nR,nBr,nBc⟩,⟨d1,d2,d3,d4,d5,d6⟩,hbs,hAl,hnc⟩ hcell hfree hA
 show Calls Tryz.prog 93 #[.pointer (some ⟨pb,po,none⟩),.bool (dlt c),.pointer (some ⟨Br,0,none⟩),.pointer (some ⟨Bc,0,none⟩)] W _
 obtain ⟨cs,hcs,hR,hown,hdis,hnA⟩:=hr.ex
 obtain ⟨x,hx⟩:=Je (fld o c)
 rw[hx] at hcell
 have hoc:=hown c hc
 have hrc:Wr Ls o c c=Ls c:=by unfold Wr;rw[if_neg (by omega)]
 rw[hrc] at hoc
 obtain ⟨⟨sa,sn,sc⟩,e⟩:=hoc.sl
 dsimp only at e
 rw[e] at hoc
 have hRc:W.cell? ⟨R,c,none⟩=some (.slice sa sn sc):=by
  unfold World.cell?
  rw[hR]
  rw[←e,Array.getD_eq_getD_getElem?]
  simp[hcs,hc]
 have nO:∀ k,(Value.slice sa sn sc).ownBlock=some k→¬ A k∧base≤k∧k<W.heap.size∧k≠Bc:=fun k hk=>⟨hnA c hc k (by rw[e];exact hk),(hoc.blk k hk).1,(hoc.blk k hk).2,fun e2=>hnc cs hR c hc (by rw[e,←e2];exact hk)⟩
 have lR:=(Array.getElem?_eq_some_iff.1 hR).1
 have lBr:=(Array.getElem?_eq_some_iff.1 hBr).1
 have lpb:=Zh hcell
 have hpR:pb≠R:=fun e=>nR (by rw[←e];exact hA)
 have hpc:pb≠Bc:=fun e=>nBc (by rw[←e];exact hA)
 have hpB:pb≠Br:=fun e=>nBr (by rw[←e];exact hA)
 have hll:=hln c
 have hW0:Ext (fun _=>False) W W.drew:=(Ext.refl _ _).drew
 have HOLD:=Jh (And.intro hR (And.intro hBr (And.intro hBc (And.intro hcell (And.intro hoc hown)))))
 have b0:=cell_of_one hBr
 have b1:=cell_of_one hBc
 have HFR:=Lib.hid hfree
 have HDIS:=Lib.hid hdis
 have HNA:=Lib.hid hnA
 have HAL:=Lib.hid hAl
 have HE:=Lib.hid e
 have HNC:=Lib.hid hnc
 have HX:=Lib.hid hx
 clear hfree hdis hnA hAl e hnc hx hown hrc hln
 go_enter Tryz.func93,Tryz.ntmps93
 go_upto_region 0 with fail
 have hS0:(fun W:World=>W.cell? ⟨Br,0,none⟩=some (.slice (some ⟨R,0,none⟩) 21 21)∧W.cell? ⟨Bc,0,none⟩=some (.int .i64 c)∧W.cell? ⟨R,c,none⟩=some (.slice sa sn sc)∧W.cell? ⟨pb,po,none⟩=some (.int .i64 x)) W.drew:=⟨b0,b1,hRc,hcell⟩
 have hoc1:Own Zr 1 3 base W.drew (.slice sa sn sc) (Ls c):=hoc
 have hsz1:W.drew.heap.size=W.heap.size:=rfl
 clear b0 b1 hRc hcell hoc hR hBr hBc hr
 refine Z8 (fun W:World=>W.cell? ⟨Br,0,none⟩=some (.slice (some ⟨R,0,none⟩) 21 21)∧W.cell? ⟨Bc,0,none⟩=some (.int .i64 c)∧W.cell? ⟨R,c,none⟩=some (.slice sa sn sc)∧W.cell? ⟨pb,po,none⟩=some (.int .i64 x)) (fun i=>i == 12) (by kernel_rfl) ?_
 generalize W.drew=W1 at hS0 hW0 hoc1 hsz1 ⊢
 have hc21:(c:Int)<21:=by omega
 have hc0:(0:Int)≤(c:Int):=by omega
 refine J4 0 6 (.slice (some ⟨R,0,none⟩) 21 21) hS0 ?_
 try simp only[Ja]
 refine J4 1 7 (.int .i64 c) hS0 ?_
 try simp only[Ja]
 refine J4 2 8 (.slice (some ⟨R,0,none⟩) 21 21) hS0 ?_
 try simp only[Ja]
 refine J4 3 9 (.int .i64 c) hS0 ?_
 try simp only[Ja]
 refine J4 4 10 (.pointer (some ⟨R,c,none⟩)) hS0 ?_
 try simp only[Ja]
 refine J4 5 11 (.slice sa sn sc) hS0 ?_
 try simp only[Ja]
 refine J4 6 12 _ hS0 ?_
 try simp only[Ja]
 refine J4 7 13 (.pointer (some ⟨pb,po,none⟩)) hS0 ?_
 try simp only[Ja]
 refine J4 8 14 (.int .i64 x) hS0 ?_
 try simp only[Ja]
 obtain ⟨i0,hi,hy0,hy1,hy2⟩:=info_parts Uc
 have hS1:(fun W:World=>W.cell? ⟨Br,0,none⟩=some (.slice (some ⟨R,0,none⟩) 21 21)∧W.cell? ⟨Bc,0,none⟩=some (.int .i64 c)∧W.cell? ⟨R,c,none⟩=some (.slice sa sn sc)∧W.cell? ⟨pb,po,none⟩=some (.int .i64 x)) (W1.alloc (.cells #[.int .i64 x] 3)):=⟨Zo hS0.1 _,Zo hS0.2.1 _,Zo hS0.2.2.1 _,Zo hS0.2.2.2 _⟩
 refine Zy (i:=9) (d:=some 15) (v:=.slice (some ⟨W1.heap.size,0,none⟩) 1 1) (w':=W1.alloc (.cells #[.int .i64 x] 3)) (by kernel_rfl) rfl rfl (by rfl) (by go_simp;try rfl) (fun _=>hS1) ?_
 try simp only[Ja]
 obtain ⟨v',w3,hr3,hown3,hx3,hn3⟩:=WJ (P:=Tryz.prog) 100 100 i0 _ 8 Tryz.underlying100 hi hy0 hy1 hy2 rfl (by omega) ZF Vz (hoc1.alloc (.cells #[.int .i64 x] 3)) x W1.heap.size 1 (Th W1 x) (by unfold maxLen;omega) (by omega) (by rw[World.size_alloc];omega)
 obtain ⟨⟨ua,un,uc⟩,e3⟩:=hown3.sl
 dsimp only at e3
 subst e3
 have hxa:Ext (fun k=>(Value.slice sa sn sc).ownBlock=some k) W w3:=((hW0.mono (fun _ _ f=>f.elim)).alloc _).andThen hx3 (fun i hi e=>e)
 have nk:∀ {k:Nat},(A k∨k<base∨k=Bc)→¬ (Value.slice sa sn sc).ownBlock=some k:=fun h e=>by
  obtain ⟨e1,e2,_,e4⟩:=nO _ e
  rcases h with h|h|h
  ·exact e1 h
  ·omega
  ·exact e4 h
 have hS3:(fun W:World=>W.cell? ⟨Br,0,none⟩=some (.slice (some ⟨R,0,none⟩) 21 21)∧W.cell? ⟨Bc,0,none⟩=some (.int .i64 c)∧W.cell? ⟨R,c,none⟩=some (.slice sa sn sc)∧W.cell? ⟨pb,po,none⟩=some (.int .i64 x)) w3:=⟨hxa.keep (cell_of_one HOLD.out.2.1) (nk (.inr (.inl d5))),hxa.keep (cell_of_one HOLD.out.2.2.1) (nk (.inr (.inr rfl))),hx3.keep hS1.2.2.1 (nk (.inr (.inl d4))),hxa.keep HOLD.out.2.2.2.1 (nk (.inl hA))⟩
 refine Zy (i:=10) (d:=some 16) (v:=.slice ua un uc) (w':=w3) (by kernel_rfl) rfl rfl (by rfl) (XI rfl rfl rfl hr3) (fun _=>hS3) ?_
 try simp only[Ja]
 refine J4 11 17 (.pointer (some ⟨R,c,none⟩)) hS3 ?_
 try simp only[Ja]
 have hR3:w3.heap[R]?=some (.cells cs 100 (0,0)):=(hxa.block _ lR (nk (.inr (.inl d4)))).trans HOLD.out.1
 have f3:w3.frozen? ⟨R,c,none⟩=false:=by simp[World.frozen?,hR3]
 have c3:=hS3.2.2.1
 refine Zk (i:=12) (d:=none) (w':=w3.setCell ⟨R,c,none⟩ (.slice ua un uc)) (by kernel_rfl) rfl rfl (by rfl) (by go_simp;try rfl) (fun h=>by cases h) ?_
 try simp only[Ja]
 refine Z3 (by kernel_rfl) ?_ _
 have hx4:Ext (·=R) w3 (w3.setCell ⟨R,c,none⟩ (.slice ua un uc)):=(Ext.refl (·=R) w3).setCell (p:=⟨R,c,none⟩) (.inr rfl) _
 have hR4:(w3.setCell ⟨R,c,none⟩ (.slice ua un uc)).heap[R]?=some (.cells (cs.setIfInBounds c (.slice ua un uc)) 100 (0,0)):=heap_setCell_same w3 _ c cs _ (.slice ua un uc) hR3
 have l3:=hxa.size
 have l4:=hx4.size
 have hBc4:(w3.setCell ⟨R,c,none⟩ (.slice ua un uc)).heap[Bc]?=some (.cells #[.int .i64 c] 3 (0,0)):=(hx4.block _ (by omega) (fun e=>d2 e.symm)).trans ((hxa.block _ d6 (nk (.inr (.inr rfl)))).trans HOLD.out.2.2.1)
 have hBr4:(w3.setCell ⟨R,c,none⟩ (.slice ua un uc)).heap[Br]?=some (.cells #[.slice (some ⟨R,0,none⟩) 21 21] 161 (0,0)):=(hx4.block _ (by omega) (fun e=>d1 e.symm)).trans ((hxa.block _ lBr (nk (.inr (.inl d5)))).trans HOLD.out.2.1)
 have ho4:Own Zr 1 3 base (w3.setCell ⟨R,c,none⟩ (.slice ua un uc)) (.slice ua un uc) (Ls c++[x]):=hown3.ext hx4 (fun k hk e=>by have:=(hown3.blk k hk).1;omega)
 have hoq:∀ q,q<21→q≠c→Own Zr 1 3 base (w3.setCell ⟨R,c,none⟩ (.slice ua un uc)) (cs.getD q undef) (Wr Ls o c q):=fun q hq hqc=>((HOLD.out.2.2.2.2.2 q hq).ext hxa (fun k hk e=>HDIS.out q c hq hc hqc k hk (by rw[HE.out];exact e))).ext hx4 (fun k hk e=>by have:=((HOLD.out.2.2.2.2.2 q hq).blk k hk).1;omega)
 have hu:∀ k,(Value.slice ua un uc).ownBlock=some k→(Value.slice sa sn sc).ownBlock=some k∨W.heap.size≤k:=fun k hk=>(hn3 k hk).imp id (fun e=>by rw[World.size_alloc] at e;omega)
 have hrows:∀ W5,Ext (·=Bc) (w3.setCell ⟨R,c,none⟩ (.slice ua un uc)) W5→Wy R base (Wr Ls o (c+1)) A W5:=fun W5 hx5=>by
  refine ⟨_,by rw[Array.size_setIfInBounds];exact hcs,(hx5.block _ (by omega) d2).trans hR4,fun q hq=>?_,fun q r hq hrr hqr k hk=>?_,fun q hq k hk=>?_⟩
  ·rw[Tx cs c q _ (by omega)]
   by_cases e:q=c
   ·subst e
    rw[if_pos rfl,show Wr Ls o (q+1) q=Ls q++[x] by unfold Wr;rw[if_pos (by omega),HX.out]]
    exact ho4.ext hx5 (fun k hk e=>(hu k hk).elim (fun e2=>(nO k e2).2.2.2 e) (fun e2=>by omega))
   ·rw[if_neg e,show Wr Ls o (c+1) q=Wr Ls o c q by unfold Wr;by_cases h:q<c;rw[if_pos h,if_pos (by omega)];rw[if_neg h,if_neg (by omega)]]
    exact (hoq q hq e).ext hx5 (fun k hk e2=>HNC.out cs HOLD.out.1 q hq (by rw[←e2];exact hk))
  ·rw[Tx cs c _ _ (by omega)] at hk ⊢
   by_cases e:q=c
   ·rw[if_pos e] at hk
    rw[if_neg (fun e2=>hqr (e.trans e2.symm))]
    intro hk2
    rcases hu k hk with e2|e2
    ·exact HDIS.out r c hrr hc (fun e3=>hqr (e.trans e3.symm)) k hk2 (by rw[HE.out];exact e2)
    ·have:=((HOLD.out.2.2.2.2.2 r hrr).blk k hk2).2;omega
   ·rw[if_neg e] at hk
    by_cases e3:r=c
    ·rw[if_pos e3]
     intro hk2
     rcases hu k hk2 with e2|e2
     ·exact HDIS.out q c hq hc e k hk (by rw[HE.out];exact e2)
     ·have:=((HOLD.out.2.2.2.2.2 q hq).blk k hk).2;omega
    ·rw[if_neg e3]
     exact HDIS.out q r hq hrr hqr k hk
  ·rw[Tx cs c _ _ (by omega)] at hk
   by_cases e:q=c
   ·rw[if_pos e] at hk
    intro ha
    rcases hu k hk with e2|e2
    ·exact (nO k e2).1 ha
    ·have:=HAL.out k ha;omega
   ·rw[if_neg e] at hk
    exact HNA.out q hq k hk
 have hX4:Ext (fun k=>¬ A k) W (w3.setCell ⟨R,c,none⟩ (.slice ua un uc)):=(hxa.mono (fun k _ e=>(nO k e).1)).andThen hx4 (fun i hi e=>by rw[e];exact nR)
 have HALL:=Jh (And.intro hrows (And.intro hX4 (And.intro hR4 (And.intro hBr4 (And.intro hBc4 hu)))))
 have b4:=cell_of_one hBc4
 have f4:=free_of_one hBc4
 have hs4:W.heap.size≤(w3.setCell ⟨R,c,none⟩ (.slice ua un uc)).heap.size:=by omega
 generalize w3.setCell ⟨R,c,none⟩ (.slice ua un uc)=W4 at HALL b4 f4 hs4 ⊢
 clear hrows hX4 hR4 hBr4 hBc4 hx4 hx3 hxa hown3 ho4 hoq hS0 hS1 hS3 hR3 f3 c3 hr3 hW0 hoc1 hn3 hu nk l3 l4
 have hx5:Ext (·=Bc) W4 (W4.setCell ⟨Bc,0,none⟩ (.int .i64 ((c+1:Nat):Int))):=(Ext.refl (·=Bc) W4).setCell (p:=⟨Bc,0,none⟩) (.inr rfl) _
 have hX5:Ext (fun k=>¬ A k) W (W4.setCell ⟨Bc,0,none⟩ (.int .i64 ((c+1:Nat):Int))):=HALL.out.2.1.andThen hx5 (fun i hi e=>by rw[e];exact nBc)
 have hP:∀ q,(W4.setCell ⟨Bc,0,none⟩ (.int .i64 ((c+1:Nat):Int))).cell? ⟨pb,q,none⟩=W.cell? ⟨pb,q,none⟩:=fun q=>hX5.cell (p:=⟨pb,q,none⟩) lpb (fun h=>h hA)
 have hPf:∀ q,(W4.setCell ⟨Bc,0,none⟩ (.int .i64 ((c+1:Nat):Int))).frozen? ⟨pb,q,none⟩=W.frozen? ⟨pb,q,none⟩:=fun q=>hX5.frozen (p:=⟨pb,q,none⟩) lpb (fun h=>h hA)
 have hz5:(W4.setCell ⟨Bc,0,none⟩ (.int .i64 ((c+1:Nat):Int))).heap.size=W4.heap.size:=World.size_setCell _ _ _
 have hJ5:JE R Br Bc base Ls o (c+1) A (W4.setCell ⟨Bc,0,none⟩ (.int .i64 ((c+1:Nat):Int))):=⟨HALL.out.1 _ hx5,(hx5.block _ (by omega) d3).trans HALL.out.2.2.2.1,one_setCell HALL.out.2.2.2.2.1,⟨nR,nBr,nBc⟩,⟨d1,d2,d3,d4,d5,by omega⟩,by omega,fun k hk=>by have:=HAL.out k hk;omega,fun cs5 hcs5 q hq hk=>by
  have h5:=(hx5.block _ (by omega) d2).trans HALL.out.2.2.1
  rw[h5] at hcs5
  cases hcs5
  rw[Tx cs c _ _ (by omega)] at hk
  by_cases e:q=c
  ·rw[if_pos e] at hk
   exact (HALL.out.2.2.2.2.2 _ hk).elim (fun e2=>(nO _ e2).2.2.2 rfl) (fun e2=>by omega)
  ·rw[if_neg e] at hk
   exact HNC.out cs HOLD.out.1 q hq hk⟩
 have hfc:(W4.setCell ⟨Bc,0,none⟩ (.int .i64 ((c+1:Nat):Int))).cell? ⟨pb,po,none⟩=some (.int .i64 (fld o c)):=by rw[HX.out,hP];exact HOLD.out.2.2.2.1
 have HFIN:=Jh (And.intro hJ5 (And.intro hfc (And.intro (fun q (_:q≠po)=>hP q) (And.intro hPf (And.intro (hX5.mono (T:=fun k=>¬ A k∨k=pb) (fun k _ e=>.inl e)) (Shp.same (W:=W) (pb:=pb) (hX5.block pb lpb (fun h=>h hA))))))))
 clear hJ5 hP hPf hX5 hx5 hz5 hfc
 go_wp2_with fail
 go_end0
 exact ⟨⟨_,rfl⟩,HFIN.out⟩
theorem Wj (x:OpD) (n r:Int) (w:World):Calls Tryz.prog 141 #[x.val,.agg #[.int .i64 n,.int .i64 r]] w fun e w'=>e=.returned (.bool (x.may ⟨n,r⟩))∧Below w.heap.size w w':=by
 obtain ⟨id,d0,d1,d2,d3,d4,d5,d6,d7,kind,ref,side,ch,under,key,name,value,fr,fa,tr,ta⟩:=x
 unfold OpD.val OpD.cells OpD.may OpD.deps
 dsimp only
 go_enter Tryz.func141,Tryz.ntmps141
 go_wp2_with fail
 refine (Z04 n r _).mono ?_
 rintro e w1 ⟨rfl,b1⟩
 have hb0:Below w.heap.size w w1:=(((Below.refl _ _).alloc (Nat.le_refl _) _).alloc (by simp) _).trans (b1.mono (by simp <;> omega))
 have k2:w1.cell? ⟨w.heap.size,2,none⟩=some (.int .i64 d0):=Zp b1 (by go_simp)
 have k3:w1.cell? ⟨w.heap.size,3,none⟩=some (.int .i64 d1):=Zp b1 (by go_simp)
 have k4:w1.cell? ⟨w.heap.size,4,none⟩=some (.int .i64 d2):=Zp b1 (by go_simp)
 have k5:w1.cell? ⟨w.heap.size,5,none⟩=some (.int .i64 d3):=Zp b1 (by go_simp)
 have k6:w1.cell? ⟨w.heap.size,6,none⟩=some (.int .i64 d4):=Zp b1 (by go_simp)
 have k7:w1.cell? ⟨w.heap.size,7,none⟩=some (.int .i64 d5):=Zp b1 (by go_simp)
 have k8:w1.cell? ⟨w.heap.size,8,none⟩=some (.int .i64 d6):=Zp b1 (by go_simp)
 have k9:w1.cell? ⟨w.heap.size,9,none⟩=some (.int .i64 d7):=Zp b1 (by go_simp)
 have s0:w1.cell? ⟨w.heap.size+1,0,none⟩=some (.int .i64 n):=Zp b1 (by go_simp)
 have s1:w1.cell? ⟨w.heap.size+1,1,none⟩=some (.int .i64 r):=Zp b1 (by go_simp)
 have HB:=Lib.hid hb0
 clear hb0 b1
 cases hr:YA ⟨n,r⟩ with
 | false =>
  have HR:=Lib.hid hr
  clear hr
  go_wp2_with fail
  go_ret
  exact ⟨by rw[HR.out];rfl,HB.out⟩
 | true =>
  have HR:=Lib.hid hr
  clear hr
  go_wp2_with fail
  refine (Z6t d0 d1 d2 d3 d4 d5 d6 d7 n r _).mono ?_
  rintro e w2 ⟨rfl,b2⟩
  go_wp2_with fail
  go_ret
  exact ⟨by rw[HR.out];rfl,HB.out.trans (b2.mono HB.out.size)⟩
end Go.Proofs.YtgmdimbiipemhaaGreatDoor
namespace Go.Proofs.YtgmdimbiipemhaaGreatDoor
open Go.RowKit
theorem Z6g:Tryz.prog.eqGuardType Tryz.prog.depth 68=false:=by kernel_rfl
theorem Z5d:∃ i,Tryz.prog.info? 3=some i:=by
 cases h:Tryz.prog.info? 3 with
 | none=>exact absurd h (by decide +kernel)
 | some i=>exact ⟨i,rfl⟩
theorem Z3K:Tryz.prog.cellsOf 3=1:=by kernel_rfl
theorem Z70 (a0 a1 a2 a3 a4 a5 a6 a7 b0 b1 b2 b3 b4 b5 b6 b7:Int) (w:World):(Op.equalIn 9999 32 (.agg #[.int .i64 a0,.int .i64 a1,.int .i64 a2,.int .i64 a3,.int .i64 a4,.int .i64 a5,.int .i64 a6,.int .i64 a7]) (.agg #[.int .i64 b0,.int .i64 b1,.int .i64 b2,.int .i64 b3,.int .i64 b4,.int .i64 b5,.int .i64 b6,.int .i64 b7])).run Tryz.prog w=.ok (decide (([a0,a1,a2,a3,a4,a5,a6,a7]:List Int)=[b0,b1,b2,b3,b4,b5,b6,b7])) w:=by
 obtain ⟨i,hi⟩:=Z5d
 rw[show (9999:Nat)=9998+1 from rfl,run_equalIn_array w 9998 _ _ Tryz.underlying32 hi,Z3K,show List.range 8=[0,1,2,3,4,5,6,7] from rfl]
 simp only[Op.eqItems]
 go_simp
 by_cases h0:a0=b0
 case neg=>simp[h0]
 subst h0
 by_cases h1:a1=b1
 case neg=>simp[h1]
 subst h1
 by_cases h2:a2=b2
 case neg=>simp[h2]
 subst h2
 by_cases h3:a3=b3
 case neg=>simp[h3]
 subst h3
 by_cases h4:a4=b4
 case neg=>simp[h4]
 subst h4
 by_cases h5:a5=b5
 case neg=>simp[h5]
 subst h5
 by_cases h6:a6=b6
 case neg=>simp[h6]
 subst h6
 by_cases h7:a7=b7
 case neg=>simp[h7]
 subst h7
 simp
theorem Z6k (x y:OpD) (w:World):(Op.equal 68 x.val y.val).run Tryz.prog w=.ok (decide (x=y)) w:=by
 obtain ⟨⟨i1,i2⟩,p0,p1,p2,p3,p4,p5,p6,p7,kind,⟨r1,r2⟩,side,ch,⟨u1,u2⟩,key,name,value,⟨f1,f2⟩,fa,⟨t1,t2⟩,ta⟩:=x
 obtain ⟨⟨j1,j2⟩,q0,q1,q2,q3,q4,q5,q6,q7,kind',⟨s1,s2⟩,side',ch',⟨v1,v2⟩,key',name',value',⟨g1,g2⟩,fa',⟨z1,z2⟩,ta'⟩:=y
 have hv:=Z70 p0 p1 p2 p3 p4 p5 p6 p7 q0 q1 q2 q3 q4 q5 q6 q7
 unfold Op.equal Op.maxDepth OpD.val OpD.cells
 dsimp only
 go_simp
 simp only[Z1W]
 by_cases h:i1=j1
 case neg=>simp[h]
 subst h
 by_cases h:i2=j2
 case neg=>simp[h]
 subst h
 by_cases h:p0=q0
 case neg=>simp[h]
 subst h
 by_cases h:p1=q1
 case neg=>simp[h]
 subst h
 by_cases h:p2=q2
 case neg=>simp[h]
 subst h
 by_cases h:p3=q3
 case neg=>simp[h]
 subst h
 by_cases h:p4=q4
 case neg=>simp[h]
 subst h
 by_cases h:p5=q5
 case neg=>simp[h]
 subst h
 by_cases h:p6=q6
 case neg=>simp[h]
 subst h
 by_cases h:p7=q7
 case neg=>simp[h]
 subst h
 by_cases h:kind=kind'
 case neg=>simp[h]
 subst h
 by_cases h:r1=s1
 case neg=>simp[h]
 subst h
 by_cases h:r2=s2
 case neg=>simp[h]
 subst h
 by_cases h:side=side'
 case neg=>simp[h]
 subst h
 by_cases h:ch=ch'
 case neg=>simp[h]
 subst h
 by_cases h:u1=v1
 case neg=>simp[h]
 subst h
 by_cases h:u2=v2
 case neg=>simp[h]
 subst h
 by_cases h:key=key'
 case neg=>simp[h]
 subst h
 by_cases h:name=name'
 case neg=>simp[h]
 subst h
 by_cases h:value=value'
 case neg=>simp[h]
 subst h
 by_cases h:f1=g1
 case neg=>simp[h]
 subst h
 by_cases h:f2=g2
 case neg=>simp[h]
 subst h
 by_cases h:fa=fa'
 case neg=>simp[h]
 subst h
 by_cases h:t1=z1
 case neg=>simp[h]
 subst h
 by_cases h:t2=z2
 case neg=>simp[h]
 subst h
 by_cases h:ta=ta'
 case neg=>simp[h]
 subst h
 simp
theorem Vl (x y:OpD) (w:World):(binOp .eql 68 x.val y.val).run Tryz.prog w=.ok (.bool (decide (x=y))) w:=by
 have h:=Z6k x y w
 unfold OpD.val at h ⊢
 simp only[binOp,Sem.run_bind,h,Result.andThen_ok,Sem.run_pure]
theorem Z4k (x y:OpD) (w:World):(binOp .neq 68 x.val y.val).run Tryz.prog w=.ok (.bool (!decide (x=y))) w:=by
 have h:=Z6k x y w
 unfold OpD.val at h ⊢
 simp only[binOp,Sem.run_bind,h,Result.andThen_ok,Sem.run_pure]
section
variable {α:Type} {ea:α→List Value} {k:Nat} {T:TypeId} {sz:Nat} {w w':World} {blk n:Nat} {f:Nat→α}
end
section
variable {P:Program} {α:Type} {ea:α→List Value} {k sz blk n:Nat} {T:TypeId} {w:World} {f:Nat→α}
theorem Z5G (b o j:Nat):(⟨b,o,none⟩:Addr).add j=⟨b,o+j,none⟩:=by unfold Addr.add;split <;> simp_all
structure WY (P:Program) (T:TypeId) (k:Nat):Prop where
 agg:∀ w,(isAgg T).run P w=.ok true w
 size:∀ w,(sizeOf T).run P w=.ok k w
theorem Zg {o:Oper} {ρ:Operand→Value} {T:TypeId} {x:Operand} {q v:Value} {W:World} (ho:o.op=.load T x) (hx:ρ x=q) (h:(Instr.loadAt T q).run P W=.ok v W):(execOp ρ o).run P W=.ok (.value v) W:=by
 unfold execOp;simp[ho,hx,h,Result.andThen]
theorem Yv {o:Oper} {ρ:Operand→Value} {T:TypeId} {p x:Operand} {q v:Value} {W W':World} (ho:o.op=.store T p x) (hp:ρ p=q) (hx:ρ x=v) (h:(Instr.storeAt T q v).run P W=.ok () W'):(execOp ρ o).run P W=.ok .skip W':=by
 unfold execOp;simp[ho,hp,hx,h,Result.andThen]
end
section
variable {P:Program}
theorem TW {T:TypeId} {k b o:Nat} {w:World} {cs:List Value} (ht:WY P T k) (hk:cs.length=k) (hc:∀ j u,cs[j]?=some u→w.cell? ⟨b,o+j,none⟩=some u) :
  (Instr.loadAt T (.pointer (some ⟨b,o,none⟩))).run P w=.ok (.agg cs.toArray) w:=by
 have hl:=run_loadCells_list (P:=P) w ⟨b,o,none⟩ cs (fun j v hj=>by rw[Z5G];exact hc j v hj)
 rw[hk] at hl
 simp[Instr.loadAt,Instr.sureAddr,loadVar,ht.agg,ht.size,hl]
theorem Ru (w:World) (o:Obj):(w.alloc o).heap[w.heap.size]?=some o:=by
 show (w.heap.push o)[w.heap.size]?=_
 simp
theorem Vh {T:TypeId} {k:Nat} (ht:WY P T k) {W:World} {z:Array Value} {cs:List Value} (hz:z.size=cs.length) (hk:cs.length=k) (h1:∀ u∈cs,u.oneCell'=true) :
  (Instr.storeAt T (.pointer (some ⟨W.heap.size,0,none⟩)) (.agg cs.toArray)).run P (W.alloc (.cells z T))=.ok () (W.alloc (.cells cs.toArray T)):=by
 have hst:=run_storeCells_at P W.heap.size 0 T cs 0 z (W.alloc (.cells z T)) (Ru W _) (by omega) h1
 simp[Instr.storeAt,Instr.sureAddr,storeVar,ht.size,Value.cells,hk,hst]
 have e:z.toList.drop k=[]:=List.drop_eq_nil_of_le (by simp;omega)
 rw[e,List.append_nil]
 have e2:((W.alloc (.cells z T)).setRow W.heap.size cs.toArray).heap=(W.alloc (.cells cs.toArray T)).heap:=by
  refine Array.ext_getElem? fun i=>?_
  by_cases hi:W.heap.size=i
  ·subst hi
   rw[setRow_heap _ _ z _ T (0,0) (Ru W _),Ru]
  ·simp only[World.setRow,Array.getElem?_modify,if_neg hi]
   show (W.heap.push _)[i]?=(W.heap.push _)[i]?
   rw[Array.getElem?_push,Array.getElem?_push,if_neg (fun e=>hi (Eq.symm e)),if_neg (fun e=>hi (Eq.symm e))]
 have e3:∀ A B:World,A.heap=B.heap→A.tape=B.tape→A.drawn=B.drawn→A.os=B.os→A.output=B.output→A=B:=by
  rintro ⟨⟩ ⟨⟩ rfl rfl rfl rfl rfl
  rfl
 exact e3 _ _ e2 rfl rfl rfl rfl
end
section
variable {P:Program} {F:Fence} {m:Nat} {ops:Array Oper} {rest:List Oper} {o:Oper} {a:Act} {Q:Exit→Act→World→Prop} {W W':World}
theorem RA (hg:o.guard=none) {T:TypeId} {ps:Array (Nat × Operand)} {vs:Array (Nat × Value)} {v:Value} (ho:o.op=.build T ps) (hx:(ps.map fun p=>(p.1,a.eval p.2))=vs)
  (hr:(Instr.build T vs).run P W=.ok v W) (h:wpList P ops Q rest (a.put o.dst v) W):wpList P ops Q (o :: rest) a W :=
 wpList_plain hg fun _ hK=>by
  subst hx
  rw[Oper.wp,show (execOp a.eval o).run P W=.ok (.value v) W from by simp[execOp,ho,hr,Result.andThen]]
  exact hK _ _ h
theorem UZ (hg:o.guard=none) {T:TypeId} {n:Nat} {ps:Array (Nat × Operand)} {vs:Array (Nat × Value)} {v:Value} (ho:o.op=.buildSlice T n ps) (hx:(ps.map fun p=>(p.1,a.eval p.2))=vs)
  (hr:(Instr.buildSlice T n vs).run P W=.ok v W') (h:wpList P ops Q rest (a.put o.dst v) W'):wpList P ops Q (o :: rest) a W :=
 wpList_plain hg fun _ hK=>by
  subst hx
  rw[Oper.wp,show (execOp a.eval o).run P W=.ok (.value v) W' from by simp[execOp,ho,hr,Result.andThen]]
  exact hK _ _ h
theorem ZL (hg:o.guard=none) {T:TypeId} {p x:Operand} {q v:Value} (ho:o.op=.store T p x) (hp:a.eval p=q) (hx:a.eval x=v)
  (hr:(Instr.storeAt T q v).run P W=.ok () W') (h:wpList P ops Q rest (a.put o.dst undef) W'):wpList P ops Q (o :: rest) a W :=
 wpList_plain hg fun _ hK=>by
  rw[Oper.wp,Yv ho hp hx hr]
  exact hK _ _ h
theorem SS (hg:o.guard=none) {T:TypeId} {n:Nat} {x0:Operand} {v0 v:Value} (ho:o.op=.buildSlice T n #[(0,x0)]) (h0:a.eval x0=v0)
  (hr:(Instr.buildSlice T n #[(0,v0)]).run P W=.ok v W') (h:wpList P ops Q rest (a.put o.dst v) W'):wpList P ops Q (o :: rest) a W :=
 UZ hg ho (by simp[h0]) hr h
end
end Go.Proofs.YtgmdimbiipemhaaGreatDoor
namespace Go.Proofs.YtgmdimbiipemhaaGreatDoor
open Go.RowKit Go.Deep
theorem Qd:WY Tryz.prog 68 26:=⟨fun w=>by kernel_rfl,fun w=>by kernel_rfl⟩
theorem Ub:WY Tryz.prog 62 2:=⟨fun w=>by kernel_rfl,fun w=>by kernel_rfl⟩
theorem Z71:WY Tryz.prog 32 8:=⟨fun w=>by kernel_rfl,fun w=>by kernel_rfl⟩
theorem QH:WY Tryz.prog 66 3:=⟨fun w=>by kernel_rfl,fun w=>by kernel_rfl⟩
def OB (B:Nat) (o:OpD) (W:World):Prop:=W.heap[B]?=some (.cells o.cells.toArray 68 (0,0))
section
variable {B:Nat} {o:OpD} {W:World}
theorem OB.new (w:World) (o:OpD):OB w.heap.size o (w.alloc (.cells o.cells.toArray 68)):=ZD w _
theorem OB.lt (h:OB B o W):B<W.heap.size:=(Array.getElem?_eq_some_iff.1 h).1
theorem OB.cell (h:OB B o W) {j:Nat} {u:Value} (hj:o.cells[j]?=some u):W.cell? ⟨B,j,none⟩=some u:=by
 unfold World.cell?
 rw[h]
 simpa using hj
theorem OB.free (h:OB B o W) (j:Nat):W.frozen? ⟨B,j,none⟩=false:=by
 unfold World.frozen?
 rw[h]
 simp
theorem OB.below {k:Nat} {W':World} (h:OB B o W) (hb:Below k W W') (hk:B<k):OB B o W':=(hb.block B hk).trans h
theorem OB.ext {S:Nat→Prop} {W':World} (h:OB B o W) (hx:Ext S W W') (hn:¬ S B):OB B o W':=(hx.block B h.lt hn).trans h
theorem OB.alloc (h:OB B o W) (x:Obj):OB B o (W.alloc x):=(Below.heap_alloc W x B h.lt).trans h
theorem OB.part (h:OB B o W) {T:TypeId} {k:Nat} (ht:WY Tryz.prog T k) (off:Nat) (vs:List Value) (hk:vs.length=k) (hv:(o.cells.drop off).take k=vs):(Instr.loadAt T (.pointer (some ⟨B,off,none⟩))).run Tryz.prog W=.ok (.agg vs.toArray) W :=
 TW ht hk (fun j u hj=>h.cell (by
  rw[←hv,List.getElem?_take] at hj
  split at hj
  ·rw[List.getElem?_drop] at hj;exact hj
  ·cases hj))
theorem OB.whole (h:OB B o W):(Instr.loadAt 68 (.pointer (some ⟨B,0,none⟩))).run Tryz.prog W=.ok (.agg o.cells.toArray) W :=
 h.part Qd 0 _ rfl rfl
theorem OB.store (h:OB B o W) {T:TypeId} {k off:Nat} (hsz:∀ w,(sizeOf T).run Tryz.prog w=.ok k w) {v:Value} {vs:List Value} (hc:v.cells=vs.toArray) (hk:vs.length=k) (h1:∀ u∈vs,u.oneCell'=true) (hf:off+k≤26) (o':OpD) (ho:o'.cells=o.cells.take off++vs++o.cells.drop (off+k)) :
  ∃ W',(Instr.storeAt T (.pointer (some ⟨B,off,none⟩)) v).run Tryz.prog W=.ok () W'∧OB B o' W'∧Ext (·=B) W W':=by
 have hst:=run_storeCells_at Tryz.prog B off 68 vs 0 o.cells.toArray W h (by rw[hk,List.size_toArray,OpD.len];omega) h1
 rw[hk,Nat.add_zero] at hst
 refine ⟨W.setRow B o'.cells.toArray,?_,setRow_heap W B _ _ _ _ h,⟨rfl,rfl,rfl,by simp[World.setRow],fun q hq hn=>by simp[World.setRow,Array.getElem?_modify];intro e;exact absurd e.symm hn⟩⟩
 rw[ho]
 simp[Instr.storeAt,Instr.sureAddr,storeVar,hsz,hc,hk,hst]
end
theorem Uk:∀ w,(sizeOf 62).run Tryz.prog w=.ok 2 w:=Ub.size
theorem Z13:∀ w,(sizeOf 66).run Tryz.prog w=.ok 3 w:=QH.size
theorem Z6u:∀ w,(sizeOf 3).run Tryz.prog w=.ok 1 w:=fun w=>by kernel_rfl
theorem Z5X:∀ w,(sizeOf 64).run Tryz.prog w=.ok 1 w:=fun w=>by kernel_rfl
theorem Ta:∀ w,(sizeOf 9).run Tryz.prog w=.ok 1 w:=fun w=>by kernel_rfl
end Go.Proofs.YtgmdimbiipemhaaGreatDoor
