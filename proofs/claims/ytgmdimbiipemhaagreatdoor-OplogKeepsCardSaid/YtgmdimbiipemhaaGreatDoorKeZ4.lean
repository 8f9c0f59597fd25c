/- OplogKeeps, part 4 of what the proof leans on (made short by a program). -/
import Derived.Test.YtgmdimbiipemhaaGreatDoorKeZ3
import Derived.Stop.Asserts
set_option linter.unusedSimpArgs false
set_option linter.unusedVariables false
set_option linter.unusedSectionVars false
set_option maxRecDepth 20000
set_option maxHeartbeats 30000000
namespace Go.Proofs.YtgmdimbiipemhaaGreatDoor
open Go.RowKit Go.Deep
def Wp (c:Nat):List Bool:=(List.range c).map dlt
theorem Sr (c:Nat):(Wp c).length=c:=by simp[Wp]
theorem Z42 (c:Nat):Wp c++[dlt c]=Wp (c+1):=by simp[Wp,List.range_succ]
def JC (Bo base:Nat) (c:Nat) (A:Nat→Prop) (W:World):Prop:=(∃ v,W.heap[Bo]?=some (.cells #[v] 75 (0,0))∧Own btc 1 4 base W v (Wp c)∧∀ k,v.ownBlock=some k→¬ A k)∧¬ A Bo∧Bo<base∧base≤W.heap.size∧∀ k,A k→k<W.heap.size
theorem JC.jok (Bo base b:Nat):JOK b (JC Bo base):=by
 rintro c A A' W W' ⟨⟨v,h1,h2,h3⟩,h4,h5,h6,h7⟩ hx hA hb
 have hlt:=(Array.getElem?_eq_some_iff.1 h1).1
 have hs:=hx.size
 refine ⟨⟨v,(hx.block _ hlt (fun e=>h4 (by rw[e];exact hb))).trans h1,h2.ext hx (fun k hk e=>h3 k hk (by rw[e];exact hb)),fun k hk ha=>?_⟩,fun ha=>?_,h5,by omega,fun k hk=>?_⟩
 ·rcases hA k ha with e|⟨e,_⟩
  ·exact h3 k hk e
  ·have:=(h2.blk k hk).2;omega
 ·rcases hA Bo ha with e|⟨e,_⟩
  ·exact h4 e
  ·omega
 ·rcases hA k hk with e|⟨_,e⟩
  ·have:=h7 k e;omega
  ·exact e
theorem Z5s (Bo base:Nat) (o:OpD):SQ Tryz.prog 145 #[.pointer (some ⟨Bo,0,none⟩)] (fld o) (fld o) (JC Bo base):=by
 rintro c A W pb po hc ⟨⟨v,hb,ho,hnA⟩,hAB,hBb,hbs,hAl⟩ hcell hfree hA
 show Calls Tryz.prog 145 #[.pointer (some ⟨pb,po,none⟩),.bool (dlt c),.pointer (some ⟨Bo,0,none⟩)] W _
 obtain ⟨i0,hi,hy0,hy1,hy2⟩:=info_parts SM
 obtain ⟨⟨sa,sn,sc⟩,e⟩:=ho.sl
 dsimp only at e
 subst e
 have b0:=cell_of_one hb
 have hlt:=(Array.getElem?_eq_some_iff.1 hb).1
 have hll:=Sr c
 have HBD:Hid ((Wp c).length+1≤maxLen∧((Wp c).length+1)*1≤140737488355328):=Jh (by rw[hll];unfold maxLen;omega)
 have hpl:=Zh hcell
 have HW:=Jh (And.intro hcell hfree)
 clear hcell hfree hll
 go_enter Tryz.func145,Tryz.ntmps145
 go_wp2_with (at_builtin;refine ZS rfl _ _ _ rfl i0 _ 1 Tryz.underlying75 hi hy0 hy1 hy2 rfl (by omega) Xh SP rfl (ho.alloc _) (dlt c) W.heap.size 1 rfl (RT _ (dlt c)) HBD.out.1 HBD.out.2 (by simp;omega) ?_)
 intro v' w3 hown3 hx3 hn3
 obtain ⟨⟨ua,un,uc⟩,e3⟩:=hown3.sl
 dsimp only at e3
 subst e3
 rw[Z42] at hown3
 have hne:¬ (Value.slice sa sn sc).ownBlock=some Bo:=fun e=>by have:=(ho.blk _ e).1;omega
 have hb3:w3.heap[Bo]?=some (.cells #[.slice sa sn sc] 75 (0,0)):=(hx3.block _ (by simp;omega) hne).trans ((Below.heap_alloc _ _ _ hlt).trans hb)
 have c3:=cell_of_one hb3
 have f3:=free_of_one hb3
 have hx4:Ext (·=Bo) w3 (w3.setCell ⟨Bo,0,none⟩ (.slice ua un uc)):=(Ext.refl (·=Bo) w3).setCell (p:=⟨Bo,0,none⟩) (.inr rfl) _
 have hxa:Ext (fun k=>(Value.slice sa sn sc).ownBlock=some k) W w3:=(Ext.alloc (Ext.refl _ _) _).andThen hx3 (fun i hi e=>e)
 have hpB:pb≠Bo:=fun e=>hAB (by rw[←e];exact hA)
 have hpO:¬ (Value.slice sa sn sc).ownBlock=some pb:=fun e=>hnA pb e hA
 have hP4:∀ q,(w3.setCell ⟨Bo,0,none⟩ (.slice ua un uc)).cell? ⟨pb,q,none⟩=W.cell? ⟨pb,q,none⟩:=fun q=>(hx4.cell (p:=⟨pb,q,none⟩) (by have:=hxa.size;show pb<_;omega) hpB).trans (hxa.cell (p:=⟨pb,q,none⟩) hpl hpO)
 have hF4:∀ q,(w3.setCell ⟨Bo,0,none⟩ (.slice ua un uc)).frozen? ⟨pb,q,none⟩=W.frozen? ⟨pb,q,none⟩:=fun q=>(hx4.frozen (p:=⟨pb,q,none⟩) (by have:=hxa.size;show pb<_;omega) hpB).trans (hxa.frozen (p:=⟨pb,q,none⟩) hpl hpO)
 have hs3:=hxa.size
 have hJ4:JC Bo base (c+1) A (w3.setCell ⟨Bo,0,none⟩ (.slice ua un uc)):=⟨⟨_,one_setCell hb3,hown3.ext hx4 (fun b hb e=>by have:=(hown3.blk b hb).1;omega),fun k hk ha=>(hn3 k hk).elim (fun e=>hnA k e ha) (fun e=>by have h9:=hAl k ha;omega)⟩,hAB,hBb,by rw[World.size_setCell];omega,fun k hk=>by have:=hAl k hk;rw[World.size_setCell];omega⟩
 have hX4:Ext (fun k=>¬ A k∨k=pb) W (w3.setCell ⟨Bo,0,none⟩ (.slice ua un uc)):=(hxa.mono (T:=fun k=>¬ A k∨k=pb) (fun k _ e=>.inl (hnA k e))).andThen hx4 (fun i hi e=>.inl (by rw[e];exact hAB))
 have HFIN:=Jh (And.intro hJ4 (And.intro ((hP4 po).trans HW.out.1) (And.intro (fun q (_:q≠po)=>hP4 q) (And.intro hF4 (And.intro hX4 (Shp.same (W:=W) (pb:=pb) (((hx4.block pb (by have:=hxa.size;omega) hpB)).trans (hxa.block pb hpl hpO))))))))
 clear hJ4 hP4 hF4 hX4 hxa hx3 hx4 hown3 hn3 hb3 ho hnA hb
 go_wp2_with fail
 go_end0
 exact ⟨⟨_,rfl⟩,HFIN.out⟩
def Xy:OpD:=⟨⟨0,0⟩,0,0,0,0,0,0,0,0,0,⟨0,0⟩,0,0,⟨0,0⟩,⟨#[]⟩,⟨#[]⟩,⟨#[]⟩,⟨0,0⟩,false,⟨0,0⟩,false⟩
theorem SX (w:World):Calls Tryz.prog 91 #[] w fun e w'=>∃ v,e=.returned v∧Own btc 1 4 w.heap.size w' v (Wp 21)∧Below w.heap.size w w':=by
 go_enter Tryz.func91,Tryz.ntmps91
 go_wp2_with fail
 have hb0:Below w.heap.size w ((w.alloc (.cells #[.slice none 0 0] 75)).alloc (.cells Xy.cells.toArray 68)):=((Below.refl _ _).alloc (Nat.le_refl _) _).alloc (by simp) _
 have hz0:((w.alloc (.cells #[.slice none 0 0] 75)).alloc (.cells Xy.cells.toArray 68)).heap.size=w.heap.size+2:=by simp
 have ho0:((w.alloc (.cells #[.slice none 0 0] 75)).alloc (.cells Xy.cells.toArray 68)).heap[w.heap.size]?=some (.cells #[.slice none 0 0] 75 (0,0)):=(Below.heap_alloc _ _ _ (by simp)).trans (ZD w _)
 have hop:((w.alloc (.cells #[.slice none 0 0] 75)).alloc (.cells Xy.cells.toArray 68)).heap[w.heap.size+1]?=some (.cells Xy.cells.toArray 68 (0,0)):=by
  have:=ZD (w.alloc (.cells #[.slice none 0 0] 75)) (.cells Xy.cells.toArray 68)
  rwa [World.size_alloc] at this
 have hA:At (w.heap.size+1) 0 Xy (fld Xy) ((w.alloc (.cells #[.slice none 0 0] 75)).alloc (.cells Xy.cells.toArray 68)):=At.of_cells (fun j u hj=>by
  rw[Nat.zero_add]
  unfold World.cell?
  rw[hop]
  simpa using hj) (fun j hj=>by
  unfold World.frozen?
  rw[hop]
  simp)
 show Calls Tryz.prog 92 #[.pointer (some ⟨w.heap.size+1,0,none⟩),.func (.func 145) #[] #[.pointer (some ⟨w.heap.size,0,none⟩)]] ((w.alloc (.cells #[.slice none 0 0] 75)).alloc (.cells Xy.cells.toArray 68)) _
 generalize (w.alloc (.cells #[.slice none 0 0] 75)).alloc (.cells Xy.cells.toArray 68)=W0 at hb0 hz0 ho0 hop hA ⊢
 have hJ0:JC w.heap.size (w.heap.size+2) 0 (fun k=>k<w.heap.size∨k=w.heap.size+1) W0:=⟨⟨_,ho0,Own.nil,fun k hk=>by cases hk⟩,fun h=>by omega,by omega,by omega,fun k hk=>by omega⟩
 have HB0:=Lib.hid hb0
 refine (Ry (enters_of Tryz.func145 (by kernel_rfl) rfl) (w.heap.size+1) 0 Xy (fld Xy) (JC w.heap.size (w.heap.size+2)) (fun k=>k<w.heap.size∨k=w.heap.size+1) W0 (Z5s _ _ Xy) (JC.jok _ _ _) (.inr rfl) hA hJ0).mono ?_
 rintro e w1 ⟨⟨v1,rfl⟩,⟨⟨v,g1,g2,g3⟩,g4,g5,g6,g7⟩,-,hx,-⟩
 have c1:=cell_of_one g1
 have HB1:Hid (Below w.heap.size w w1):=Jh (Ext.new HB0.out hx (fun i hi _ e=>e.elim (fun e=>e (.inl hi)) (fun e=>by omega)) (by omega))
 have HG:=Jh (g2.mono (show w.heap.size≤w.heap.size+2 by omega))
 clear g1 g2 g3 g4 g7 hx hJ0 hA hop ho0 hb0
 go_wp2_with fail
 go_ret
 exact ⟨_,rfl,HG.out,HB1.out⟩
def slc (s:Sl):List Value:=[.slice s.a s.n s.cap]
theorem QA (s:Sl):(slc s).length=1:=rfl
theorem Z3a (s:Sl):∀ u∈slc s,u.oneCell'=true:=fun u hu=>by rw[slc,List.mem_singleton] at hu;subst hu;rfl
theorem Z36 (W:World) (s:Sl):∀ j u,(slc s)[j]?=some u→(W.alloc (.cells #[.slice s.a s.n s.cap] 100)).cell? ⟨W.heap.size,j,none⟩=some u:=by
 intro j u hj
 rw[World.cell?_alloc_at _ _ _ _ rfl,←hj,slc]
 simp
theorem Qf:(Tryz.prog.info? 100).map (fun i=>(i.zero,i.size,i.bytes))=some (some (.slice none 0 0),1,24):=by kernel_rfl
structure NS (w0:World) (T:Nat) (w:World) (tl:Value) (ls:List OpD) (r:List UInt8) (ca:Option Addr) (cc k:Nat) (W:World) (lo:Nat) (tb rv:Value) (L:List (List Int)) (r':List UInt8) (rs:List Sl):Prop where
 dec:ZP ls.length k r=some (L,r')
 tks:TKS w0 T W tb r' tl ls
 row:W.heap[lo]?=some (.cells #[rv] 161 (0,0))
 own:Own slc 1 100 (lo+1) W rv rs
 num:∀ i s,rs[i]?=some s→Own Zr 1 3 (lo+1) W (.slice s.a s.n s.cap) (L.getD i [])
 len:rs.length=k
 col:Own btc 1 4 (lo+1) W (.slice ca 21 cc) (Wp 21)
 siz:lo+1≤W.heap.size
 apt:T<lo∧∀ b,tl.ownBlock=some b→b<lo
theorem NS.below {w0:World} {T:Nat} {w:World} {tl:Value} {ls:List OpD} {r:List UInt8} {ca:Option Addr} {cc k:Nat} {W W':World} {lo:Nat} {tb rv:Value} {L:List (List Int)} {r':List UInt8} {rs:List Sl} (h:NS w0 T w tl ls r ca cc k W lo tb rv L r' rs) (hb:Below W.heap.size W W'):NS w0 T w tl ls r ca cc k W' lo tb rv L r' rs :=
 ⟨h.dec,h.tks.below hb,(hb.block _ (by have:=h.siz;omega)).trans h.row,h.own.below1 hb,fun i s hs=>(h.num i s hs).below1 hb,h.len,h.col.below1 hb,Nat.le_trans h.siz hb.size,h.apt⟩
theorem NS.push {w0:World} {T:Nat} {w:World} {tl:Value} {ls:List OpD} {r:List UInt8} {ca:Option Addr} {cc k:Nat} {w3 w4:World} {lo:Nat} {tb tb' rv rv':Value} {L:List (List Int)} {r':List UInt8} {rs:List Sl} {l:List Int} {u:Nat} {s:Sl} {x:Obj} (h:NS w0 T w tl ls r ca cc k w3 lo tb rv L r' rs) (hn:ls.length≤65536)
  (hcd:VW ls.length (dlt k) r'=some (l,u)) (hl:Own Zr 1 3 (lo+1) w3 (.slice s.a s.n s.cap) l) (h4:Own slc 1 100 (lo+1) w4 rv' (rs++[s])) (hx:Ext (fun b=>rv.ownBlock=some b) (w3.alloc x) w4) (hbyt:Z0 u8c 1 w0 tb' (r'.drop u)) :
  NS w0 T w tl ls r ca cc (k+1) ((w4.setCell ⟨lo,0,none⟩ rv').setCell ⟨T,0,none⟩ tb') lo tb' rv' (L++[l]) (r'.drop u) (rs++[s]):=by
 have hL:=(UR hn h.dec).1
 have hxa:Ext (fun b=>rv.ownBlock=some b) w3 w4:=((Ext.refl _ _).alloc _).andThen hx (fun i hi e=>e)
 have hx5:Ext (·=lo) w4 (w4.setCell ⟨lo,0,none⟩ rv'):=(Ext.refl (·=lo) w4).setCell (p:=⟨lo,0,none⟩) (.inr rfl) _
 have hx6:Ext (·=T) (w4.setCell ⟨lo,0,none⟩ rv') ((w4.setCell ⟨lo,0,none⟩ rv').setCell ⟨T,0,none⟩ tb'):=(Ext.refl (·=T) _).setCell (p:=⟨T,0,none⟩) (.inr rfl) _
 have hTl:=h.apt.1
 have hno:∀ b,rv.ownBlock=some b→lo+1≤b:=fun b hb=>(h.own.blk b hb).1
 have hz:=hxa.size
 have hsz:=h.siz
 have hz5:(w4.setCell ⟨lo,0,none⟩ rv').heap.size=w4.heap.size:=World.size_setCell _ _ _
 have hall:Ext (fun b=>rv.ownBlock=some b∨b=lo∨b=T) w3 ((w4.setCell ⟨lo,0,none⟩ rv').setCell ⟨T,0,none⟩ tb'):=((hxa.mono (fun _ _ e=>.inl e)).andThen hx5 (fun i hi e=>.inr (.inl e))).andThen hx6 (fun i hi e=>.inr (.inr e))
 have hrow4:w4.heap[lo]?=some (.cells #[rv] 161 (0,0)):=(hxa.block _ (by omega) (fun e=>by have:=hno _ e;omega)).trans h.row
 have hT5:(w4.setCell ⟨lo,0,none⟩ rv').heap[T]?=some (.cells #[tb,tl] 90 (0,0)):=(hx5.block _ (by omega) (by omega)).trans ((hxa.block _ (by omega) (fun e=>by have:=hno _ e;omega)).trans h.tks.cell)
 have hnew:w0.heap.size≤T:=h.tks.new
 have keep:∀ {α:Type} {ea:α→List Value} {q:Nat} {t:TypeId} {v:Value} {m:List α},t≠100→Own ea q t (lo+1) w3 v m→Own ea q t (lo+1) ((w4.setCell ⟨lo,0,none⟩ rv').setCell ⟨T,0,none⟩ tb') v m:=fun ht hm=>hm.ext hall (fun b hb e=>by
  rcases e with e|e|e
  ·obtain ⟨c1,g1⟩:=hm.tag hb
   obtain ⟨c2,g2⟩:=h.own.tag e
   rw[g1] at g2
   cases g2
   exact ht rfl
  ·have:=(hm.blk b hb).1;omega
  ·have:=(hm.blk b hb).1;omega)
 refine ⟨Z22 h.dec hcd,⟨?_,hbyt,h.tks.own.ext hall (fun b hb e=>?_),Ext.new h.tks.bel hall (fun i hi _ e=>?_) h.tks.bel.size,hnew,h.tks.fltKeep hall (fun e=>by
  have hf:=h.tks.flt
  rcases e with e|e|e
  ·obtain ⟨c2,g2⟩:=h.own.tag e
   rw[hf] at g2
   cases g2
  ·have g2:=h.row
   rw[←e,hf] at g2
   cases g2
  ·omega)⟩,?_,(h4.ext hx5 (fun b hb e=>by have:=(h4.blk b hb).1;omega)).ext hx6 (fun b hb e=>by have:=(h4.blk b hb).1;omega),fun i s2 hs=>?_,by rw[List.length_append,h.len];rfl,keep (by decide) h.col,by have:=hall.size;omega,h.apt⟩
 ·rw[heap_setCell_same _ T 0 _ _ _ hT5]
  rfl
 ·have:=h.apt.2 b hb
  rcases e with e|e|e
  ·have:=hno b e;omega
  ·omega
  ·have hc:=h.tks.cell
   obtain ⟨c1,g1⟩:=h.tks.own.tag hb
   rw[e,hc] at g1
   cases g1
 ·rcases e with e|e|e
  ·have:=hno i e;omega
  ·omega
  ·omega
 ·exact (hx6.block _ (by omega) (by omega)).trans (one_setCell hrow4)
 ·by_cases hi:i<rs.length
  ·rw[List.getElem?_append_left hi] at hs
   have:=keep (by decide) (h.num i s2 hs)
   rwa [show (L++[l]).getD i []=L.getD i [] by rw[List.getD_eq_getElem?_getD,List.getD_eq_getElem?_getD,List.getElem?_append_left (by rw[hL,←h.len];exact hi)]]
  ·rw[List.getElem?_append_right (by omega)] at hs
   have hi2:i - rs.length=0:=by
    have:=(List.getElem?_eq_some_iff.1 hs).1
    simp at this
    omega
   rw[hi2] at hs
   cases hs
   rw[show (L++[l]).getD i []=l by rw[List.getD_eq_getElem?_getD,List.getElem?_append_right (by rw[hL,←h.len];omega),hL,←h.len,hi2];rfl]
   exact keep (by decide) hl
structure N2 (w0:World) (T:Nat) (tl:Value) (ls:List OpD) (lo:Nat) (tb rv:Value) (L:List (List Int)) (r':List UInt8) (rs:List Sl) (i:Nat) (W:World):Prop where
 tks:TKS w0 T W tb r' tl (YV L i ls)
 row:W.heap[lo]?=some (.cells #[rv] 161 (0,0))
 own:Own slc 1 100 (lo+1) W rv rs
 num:∀ i s,rs[i]?=some s→Own Zr 1 3 (lo+1) W (.slice s.a s.n s.cap) (L.getD i [])
 siz:lo+1≤W.heap.size
theorem N2.reads {w0:World} {T:Nat} {tl:Value} {ls:List OpD} {lo:Nat} {tb rv:Value} {L:List (List Int)} {r':List UInt8} {rs:List Sl} {i:Nat} {W:World} (h:N2 w0 T tl ls lo tb rv L r' rs i W) (hr:rs.length=21) (hL:L.length=21∧∀ x∈L,x.length=ls.length) (hi:i<ls.length) :
  ∃ rb rcap,rv=.slice (some ⟨rb,0,none⟩) 21 rcap∧lo+1≤rb∧rb<W.heap.size∧∀ c,c<21→∃ sb sn sc,W.cell? ⟨rb,c,none⟩=some (.slice (some ⟨sb,0,none⟩) sn sc)∧(lo+1≤sb∧sb<W.heap.size)∧i<sn∧W.cell? ⟨sb,i,none⟩=some (.int .i64 (Uq L i c)):=by
 rcases h.own.eq_slice with ⟨_,e⟩|⟨rb,rcap,e,h1,h2⟩
 ·rw[e] at hr;simp at hr
 ·rw[hr] at e
  refine ⟨rb,rcap,e,h1,h2,fun c hc=>?_⟩
  obtain ⟨s,hs⟩:∃ s,rs[c]?=some s:=⟨_,List.getElem?_eq_getElem (by omega)⟩
  have hown:=h.own
  rw[e,←hr] at hown
  have h3:=hown.cellAt QA (i:=c) (j:=0) hs rfl
  rw[Nat.mul_one,Nat.add_zero] at h3
  have h4:=h.num c s hs
  have hLc:(L.getD c []).length=ls.length:=by
   obtain ⟨y,hy⟩:∃ y,L[c]?=some y:=⟨_,List.getElem?_eq_getElem (by omega)⟩
   rw[List.getD_eq_getElem?_getD,hy]
   exact hL.2 y (List.mem_of_getElem? hy)
  rcases h4.eq_slice with ⟨_,e4⟩|⟨sb,sc,e4,h5,h6⟩
  ·rw[e4] at hLc;simp at hLc;omega
  ·obtain ⟨x,hx⟩:∃ x,(L.getD c [])[i]?=some x:=⟨_,List.getElem?_eq_getElem (by omega)⟩
   have h7:=h4
   rw[e4] at h7
   have h8:=h7.cellAt ZF (i:=i) (j:=0) hx rfl
   rw[Nat.mul_one,Nat.add_zero] at h8
   refine ⟨sb,_,sc,by rw[h3,e4],⟨h5,h6⟩,by omega,?_⟩
   rw[h8]
   unfold Uq
   rw[List.getD_eq_getElem?_getD (l:=L.getD c []),hx]
   rfl
theorem N2.ext {w0:World} {T:Nat} {tl:Value} {ls:List OpD} {lo:Nat} {tb rv:Value} {L:List (List Int)} {r':List UInt8} {rs:List Sl} {i:Nat} {W W':World} {S:Nat→Prop} (h:N2 w0 T tl ls lo tb rv L r' rs i W) (hx:Ext S W W') (hS:∀ k,S k→k<W.heap.size→False) (ha:T<lo∧∀ b,tl.ownBlock=some b→b<lo):N2 w0 T tl ls lo tb rv L r' rs i W' :=
 ⟨h.tks.ext hx (fun e=>hS _ e (by have:=h.siz;omega)) (fun k hk e=>hS k e (by have:=ha.2 k hk;have:=h.siz;omega)) (fun k hk e=>hS k e (by have:=h.tks.bel.size;omega)) (fun e=>hS _ e (Array.getElem?_eq_some_iff.1 h.tks.flt).1),(hx.block _ (by have:=h.siz;omega) (fun e=>hS _ e (by have:=h.siz;omega))).trans h.row,h.own.ext hx (fun b hb e=>hS b e (h.own.blk b hb).2),fun j s hs=>(h.num j s hs).ext hx (fun b hb e=>hS b e ((h.num j s hs).blk b hb).2),Nat.le_trans h.siz hx.size⟩
theorem N2.put {w0:World} {T g lc Bc:Nat} {ls:List OpD} {lo:Nat} {tb rv:Value} {L:List (List Int)} {r':List UInt8} {rs:List Sl} {i:Nat} {W0 W W':World} {x:OpD} (h:N2 w0 T (.slice (some ⟨g,0,none⟩) ls.length lc) ls lo tb rv L r' rs i W) (h0:N2 w0 T (.slice (some ⟨g,0,none⟩) ls.length lc) ls lo tb rv L r' rs i W0) (hx:Ext (fun k=>k=g∨k=Bc) W W') (hBc:W0.heap.size≤Bc) (hxi:ls[i]?=some x) (hA:At g (i*26) x (Uq L i) W') (hR:Rst g (i*26) W W') (ha:T<lo∧∀ b,(Value.slice (some ⟨g,0,none⟩) ls.length lc).ownBlock=some b→b<lo) :
  N2 w0 T (.slice (some ⟨g,0,none⟩) ls.length lc) ls lo tb rv L r' rs (i+1) W':=by
 have hg:=ha.2 g rfl
 have h1:=h0.siz
 have hTg:T≠g:=fun e=>by
  have h1:=h.tks.cell
  obtain ⟨c2,h2⟩:=h.tks.own.tag (b:=g) rfl
  rw[e,h2] at h1
  cases h1
 have hgn:=(h.tks.own.blk g rfl).1
 have hb0:=h.tks.bel.size
 have hb1:=h0.tks.bel.size
 refine ⟨⟨(hx.block T (Array.getElem?_eq_some_iff.1 h.tks.cell).1 (fun e=>e.elim hTg (fun e=>by omega))).trans h.tks.cell,h.tks.byt,?_,Ext.new h.tks.bel hx (fun k hk _ e=>e.elim (fun e=>by omega) (fun e=>by omega)) h.tks.bel.size,h.tks.new,h.tks.fltKeep hx (fun e=>e.elim (fun e=>by
  obtain ⟨c2,h2⟩:=h.tks.own.tag (b:=g) rfl
  have h1:=h.tks.flt
  rw[e,h2] at h1
  cases h1) (fun e=>by have:=(Array.getElem?_eq_some_iff.1 h0.tks.flt).1;omega))⟩,(hx.block lo (Array.getElem?_eq_some_iff.1 h.row).1 (fun e=>e.elim (fun e=>by omega) (fun e=>by omega))).trans h.row,h.own.ext hx (fun b hb e=>by have h5:=h0.own.blk b hb;rcases e with e|e <;> omega),fun j s hs=>(h.num j s hs).ext hx (fun b hb e=>by have h5:=(h0.num j s hs).blk b hb;rcases e with e|e <;> omega),Nat.le_trans h.siz hx.size⟩
 rw[Z4G L i hxi]
 exact h.tks.own.putOp (Z2V L i hxi) hA hR
def Uu (what:ByteArray) (n:Int):Value:=.iface 187 (.agg #[.string what,.iface 91 (.int .i64 n)])
theorem Z2s (w0:World) (T:Nat) (w:World) (tb tl:Value) (r:List UInt8) (ls:List OpD) (h:TKS w0 T w tb r tl ls) (hn:ls.length≤200):Calls Tryz.prog 104 #[.pointer (some ⟨T,0,none⟩)] w fun e w' =>
  (∃ L r' tb',ZP ls.length 21 r=some (L,r')∧e=.returned .nilIface∧TKS w0 T w' tb' r' tl (YV L ls.length ls))∨(ZP ls.length 21 r=none∧(∃ s m,e=.returned (Uu s m))∧Kp w0 T w'):=by
 obtain ⟨⟨la,ln,lc⟩,el⟩:=h.own.sl
 dsimp only at el
 subst el
 obtain rfl:ln=ls.length:=(h.own.nlen OpD.len).1
 have HT:=Lib.hid h
 have hTl:=(Array.getElem?_eq_some_iff.1 h.cell).1
 have hLl:=fun b hb=>(h.own.blk b hb).2
 clear h
 go_enter Tryz.func104,Tryz.ntmps104
 go_wp2_with fail
 obtain ⟨lo,hlo⟩:∃ lo,lo=w.heap.size:=⟨_,rfl⟩
 rw[←hlo]
 have HLO:=Lib.hid hlo
 refine (SX _).mono ?_
 rintro e w5 ⟨v5,rfl,hown5,b5⟩
 obtain ⟨⟨ca,cn,cc⟩,e5⟩:=hown5.sl
 dsimp only at e5
 subst e5
 obtain rfl:cn=21:=by have:=(hown5.nlen Xh).1;rw[Sr] at this;exact this
 have HS0:Hid (NS w0 T w (.slice la ls.length lc) ls r ca cc 0 w5 lo tb (.slice none 0 0) [] r []):=Jh (by
  have hz:lo+1≤(w.alloc (.cells #[.slice none 0 0] 161)).heap.size:=by rw[World.size_alloc];omega
  refine ⟨rfl,?_,?_,Own.nil,fun i s hs=>by simp at hs,rfl,hown5.mono hz,Nat.le_trans hz b5.size,by omega,fun b hb=>by have:=hLl b hb;omega⟩
  ·exact TKS.below (HT.out.ext ((Ext.refl (fun _=>False) w).alloc _) id (fun _ _=>id) (fun _ _=>id) id) b5
  ·exact (b5.block _ (by omega)).trans (by rw[hlo];exact ZD w _))
 clear hown5 b5 hlo hTl hLl
 go_wp2_with fail
 go_loopg [14] 21 (fun g kv wx=>∃ (k:Nat) (tb rv:Value) (L:List (List Int)) (r2:List UInt8) (rs:List Sl),g=21 - k∧kv=.int .i64 k∧k≤21∧Hid (NS w0 T w (.slice la ls.length lc) ls r ca cc k wx lo tb rv L r2 rs))
 case atStart=>exact ⟨0,_,_,_,_,_,rfl,rfl,by omega,HS0⟩
 case round =>
  clear HS0
  obtain ⟨k,tb1,rv,L,r2,rs,hg,rfl,hk,HR⟩:=hrel
  have HG:=Lib.hid hg
  clear hg
  by_cases hlt:k<21
  ·have hk1:(k:Int)<21:=by omega
   obtain ⟨b9,o9,e9,c9⟩:=(HR.out.col.slice Xh).at1 (k:=k) (x:=dlt k) (by simp[Wp,hlt]) rfl
   cases e9
   obtain ⟨ta,tcap,rfl,htc,htm,-⟩:=id HR.out.tks.byt
   unfold maxLen at htm
   have hc0:=HR.out.tks.cell
   have HB:=Lib.hid HR.out.tks.bytes
   have hSW:(fun W:World=>W.cell? ⟨T,0,none⟩=some (.slice ta r2.length tcap)∧W.cell? ⟨T,1,none⟩=some (.slice la ls.length lc)) wr.drew:=⟨by show World.cell? wr _=_;simp[World.cell?,hc0],by show World.cell? wr _=_;simp[World.cell?,hc0]⟩
   clear hc0
   cases hd:dlt k with
   | false =>
    have hcd:VW ls.length (dlt k) r2=Xg ls.length none r2:=by unfold VW;rw[hd];rfl
    have HCD:=Lib.hid hcd
    rw[hd] at c9
    clear hd hcd
    go_upto_region 8 with fail
    clear c9
    refine Z8 (fun W:World=>W.cell? ⟨T,0,none⟩=some (.slice ta r2.length tcap)∧W.cell? ⟨T,1,none⟩=some (.slice la ls.length lc)) (fun i=>i == 17) (by kernel_rfl) ?_
    have HR1:Hid (NS w0 T w (.slice la ls.length lc) ls r _ cc k wr.drew lo (.slice ta r2.length tcap) rv L r2 rs):=Jh (HR.out.below (Below.refl _ _).drew)
    have HB1:Hid (Z0 u8c 1 wr.drew (.slice ta r2.length tcap) r2):=Jh (HR1.out.tks.bytes)
    generalize wr.drew=W1 at hSW HR1 HB1 ⊢
    refine J2 0 20 _ hSW ?_
    try simp only[Ja]
    refine J2 1 21 _ hSW ?_
    try simp only[Ja]
    refine J2 2 22 (.pointer (some ⟨T,0,none⟩)) hSW ?_
    try simp only[Ja]
    refine J2 3 23 (.pointer (some ⟨T,0,none⟩)) hSW ?_
    try simp only[Ja]
    refine J2 4 24 (.slice ta r2.length tcap) hSW ?_
    try simp only[Ja]
    refine J2 5 25 _ hSW ?_
    try simp only[Ja]
    refine J2 6 26 (.pointer (some ⟨T,0,none⟩)) hSW ?_
    try simp only[Ja]
    refine J2 7 27 (.pointer (some ⟨T,1,none⟩)) hSW ?_
    try simp only[Ja]
    refine J2 8 28 (.slice la ls.length lc) hSW ?_
    try simp only[Ja]
    refine J2 9 29 (.int .i64 ls.length) hSW ?_
    try simp only[Ja]
    refine Zw (i:=10) (d:=some 30) (f:=153) (args:=#[.slice ta r2.length tcap,.int .i64 ls.length]) (w':=W1) (by kernel_rfl) rfl rfl (by rfl) (by go_simp;try rfl) ?_
    refine (U8 _ r2 ls.length _ HB1.out (by omega)).mono ?_
    rintro e w3 (⟨l,u,v,hdec,rfl,hown,hb⟩|⟨hdec,rfl,hb⟩)
    ·have hS3:(fun W:World=>W.cell? ⟨T,0,none⟩=some (.slice ta r2.length tcap)∧W.cell? ⟨T,1,none⟩=some (.slice la ls.length lc)) w3:=⟨(hb.cell (p:=⟨T,0,none⟩) (Zh hSW.1)).trans hSW.1,(hb.cell (p:=⟨T,1,none⟩) (Zh hSW.2)).trans hSW.2⟩
     have HR3:=Jh (HR1.out.below hb)
     refine ⟨_,rfl,fun _=>hS3,?_⟩
     try simp only[Ja]
     refine J2 11 19 (.tuple #[v,.int .i64 (u:Nat),.int .i64 0]) hS3 ?_
     try simp only[Ja]
     refine J2 12 31 v hS3 ?_
     try simp only[Ja]
     refine J2 13 32 (.int .i64 (u:Nat)) hS3 ?_
     try simp only[Ja]
     refine J2 14 33 (.int .i64 0) hS3 ?_
     try simp only[Ja]
     refine J2 15 7 v hS3 ?_
     try simp only[Ja]
     refine J2 16 8 (.int .i64 (u:Nat)) hS3 ?_
     try simp only[Ja]
     refine Zy (i:=17) (d:=some 9) (v:=.int .i64 0) (w':=w3) (by kernel_rfl) rfl rfl (by rfl) (by go_simp;try rfl) (fun h=>by cases h) ?_
     try simp only[Ja]
     refine Z3 (by kernel_rfl) ?_ _
     clear hS3 hSW
     have HDEC:=Jh (HCD.out.trans hdec)
     clear hdec
     have hcf:=Tp (by omega) HDEC.out
     have hul:=hcf.2
     obtain ⟨⟨pa,pn,pc⟩,ep⟩:=hown.sl
     dsimp only at ep
     subst ep
     obtain ⟨⟨va,vn,vc⟩,ev⟩:=HR3.out.own.sl
     dsimp only at ev
     subst ev
     have HOWN:Hid (Own Zr 1 3 (lo+1) w3 (.slice pa pn pc) l):=Jh (hown.mono HR1.out.siz)
     obtain ⟨a1,c1,hsl,hS1,-⟩:=ZW (P:=Tryz.prog) (ea:=u8c) Tryz.underlying22 Zl ta r2.length tcap u htc hul
     have HBY:=Jh (hS1 w0 r2 rfl HR3.out.tks.byt)
     obtain ⟨i0,hi,hy0,hy1,hy2⟩:=info_parts Qf
     have HBD:Hid (rs.length+1≤maxLen∧(rs.length+1)*24≤140737488355328):=Jh (by rw[HR3.out.len];unfold maxLen;omega)
     have c0:=cell_of_one HR3.out.row
     have hne:¬ T=lo:=by have:=HR3.out.apt.1;omega
     clear hown hcf hS1
     go_wp2_with (at_builtin;refine ZS rfl _ _ _ rfl i0 _ 24 Tryz.underlying161 hi hy0 hy1 hy2 rfl (by omega) QA Z3a rfl (HR3.out.own.alloc _) (⟨pa,pn,pc⟩:Sl) w3.heap.size 1 rfl (Z36 _ ⟨pa,pn,pc⟩) HBD.out.1 HBD.out.2 (by have:=HR3.out.siz;simp;omega) ?_)
     intro v' w4 hown4 hx4 hn4
     obtain ⟨⟨ua,un,uc⟩,e4⟩:=hown4.sl
     dsimp only at e4
     subst e4
     have hxa:Ext (fun b=>(Value.slice va vn vc).ownBlock=some b) w3 w4:=((Ext.refl _ _).alloc _).andThen hx4 (fun i hi e=>e)
     have g4:w4.heap[lo]?=some (.cells #[.slice va vn vc] 161 (0,0)):=(hxa.block _ (by have:=HR3.out.siz;omega) (fun e=>by have:=(HR3.out.own.blk _ e).1;omega)).trans HR3.out.row
     have gT:w4.heap[T]?=some (.cells #[.slice ta r2.length tcap,.slice la ls.length lc] 90 (0,0)):=(hxa.block _ (by have:=HR3.out.siz;have:=HR3.out.apt.1;omega) (fun e=>by have:=(HR3.out.own.blk _ e).1;have:=HR3.out.apt.1;omega)).trans HR3.out.tks.cell
     have c4:=cell_of_one g4
     have f4:=free_of_one g4
     have cT:w4.cell? ⟨T,0,none⟩=some (.slice ta r2.length tcap):=by simp[World.cell?,gT]
     have fT:w4.frozen? ⟨T,0,none⟩=false:=by simp[World.frozen?,gT]
     have HN:=Jh (HR3.out.push (by omega) HDEC.out HOWN.out hown4 hx4 HBY.out)
     clear hown4 hx4 hn4 hxa g4 gT HOWN HBY c0
     go_wp2_with fail
     go_roundg (21 - (k+1))
     case measure=>rw[HG.out];omega
     case rel=>exact ⟨k+1,_,_,_,_,_,rfl,by simp,by omega,HN⟩
    ·have hS3:(fun W:World=>W.cell? ⟨T,0,none⟩=some (.slice ta r2.length tcap)∧W.cell? ⟨T,1,none⟩=some (.slice la ls.length lc)) w3:=⟨(hb.cell (p:=⟨T,0,none⟩) (Zh hSW.1)).trans hSW.1,(hb.cell (p:=⟨T,1,none⟩) (Zh hSW.2)).trans hSW.2⟩
     have HR3:=Jh (HR1.out.below hb)
     refine ⟨_,rfl,fun _=>hS3,?_⟩
     try simp only[Ja]
     refine J2 11 19 (.tuple #[.slice none 0 0,.int .i64 0,.int .i64 41]) hS3 ?_
     try simp only[Ja]
     refine J2 12 31 (.slice none 0 0) hS3 ?_
     try simp only[Ja]
     refine J2 13 32 (.int .i64 0) hS3 ?_
     try simp only[Ja]
     refine J2 14 33 (.int .i64 41) hS3 ?_
     try simp only[Ja]
     refine J2 15 7 (.slice none 0 0) hS3 ?_
     try simp only[Ja]
     refine J2 16 8 (.int .i64 0) hS3 ?_
     try simp only[Ja]
     refine Zy (i:=17) (d:=some 9) (v:=.int .i64 41) (w':=w3) (by kernel_rfl) rfl rfl (by rfl) (by go_simp;try rfl) (fun h=>by cases h) ?_
     try simp only[Ja]
     refine Z3 (by kernel_rfl) ?_ _
     clear hS3 hSW
     have HBAD:Hid (ZP ls.length 21 r=none):=Jh (SY HR3.out.dec (HCD.out.trans hdec) hlt)
     clear hdec
     go_wp2_with fail
     go_ret
     exact .inr ⟨HBAD.out,⟨_,_,rfl⟩,HR3.out.tks.kp⟩
   | true =>
    have hcd:VW ls.length (dlt k) r2=UT ls.length r2:=by unfold VW;rw[hd];rfl
    have HCD:=Lib.hid hcd
    rw[hd] at c9
    clear hd hcd
    go_upto_region 8 with fail
    clear c9
    refine Z8 (fun W:World=>W.cell? ⟨T,0,none⟩=some (.slice ta r2.length tcap)∧W.cell? ⟨T,1,none⟩=some (.slice la ls.length lc)) (fun i=>i == 17) (by kernel_rfl) ?_
    have HR1:Hid (NS w0 T w (.slice la ls.length lc) ls r _ cc k wr.drew lo (.slice ta r2.length tcap) rv L r2 rs):=Jh (HR.out.below (Below.refl _ _).drew)
    have HB1:Hid (Z0 u8c 1 wr.drew (.slice ta r2.length tcap) r2):=Jh (HR1.out.tks.bytes)
    generalize wr.drew=W1 at hSW HR1 HB1 ⊢
    refine J2 0 20 _ hSW ?_
    try simp only[Ja]
    refine J2 1 21 _ hSW ?_
    try simp only[Ja]
    refine J2 2 22 (.pointer (some ⟨T,0,none⟩)) hSW ?_
    try simp only[Ja]
    refine J2 3 23 (.pointer (some ⟨T,0,none⟩)) hSW ?_
    try simp only[Ja]
    refine J2 4 24 (.slice ta r2.length tcap) hSW ?_
    try simp only[Ja]
    refine J2 5 25 _ hSW ?_
    try simp only[Ja]
    refine J2 6 26 (.pointer (some ⟨T,0,none⟩)) hSW ?_
    try simp only[Ja]
    refine J2 7 27 (.pointer (some ⟨T,1,none⟩)) hSW ?_
    try simp only[Ja]
    refine J2 8 28 (.slice la ls.length lc) hSW ?_
    try simp only[Ja]
    refine J2 9 29 (.int .i64 ls.length) hSW ?_
    try simp only[Ja]
    refine Zw (i:=10) (d:=some 30) (f:=154) (args:=#[.slice ta r2.length tcap,.int .i64 ls.length]) (w':=W1) (by kernel_rfl) rfl rfl (by rfl) (by go_simp;try rfl) ?_
    refine (Qx _ r2 ls.length _ HB1.out (by omega)).mono ?_
    rintro e w3 (⟨l,u,v,hdec,rfl,hown,hb⟩|⟨hdec,rfl,hb⟩)
    ·have hS3:(fun W:World=>W.cell? ⟨T,0,none⟩=some (.slice ta r2.length tcap)∧W.cell? ⟨T,1,none⟩=some (.slice la ls.length lc)) w3:=⟨(hb.cell (p:=⟨T,0,none⟩) (Zh hSW.1)).trans hSW.1,(hb.cell (p:=⟨T,1,none⟩) (Zh hSW.2)).trans hSW.2⟩
     have HR3:=Jh (HR1.out.below hb)
     refine ⟨_,rfl,fun _=>hS3,?_⟩
     try simp only[Ja]
     refine J2 11 19 (.tuple #[v,.int .i64 (u:Nat),.int .i64 0]) hS3 ?_
     try simp only[Ja]
     refine J2 12 31 v hS3 ?_
     try simp only[Ja]
     refine J2 13 32 (.int .i64 (u:Nat)) hS3 ?_
     try simp only[Ja]
     refine J2 14 33 (.int .i64 0) hS3 ?_
     try simp only[Ja]
     refine J2 15 7 v hS3 ?_
     try simp only[Ja]
     refine J2 16 8 (.int .i64 (u:Nat)) hS3 ?_
     try simp only[Ja]
     refine Zy (i:=17) (d:=some 9) (v:=.int .i64 0) (w':=w3) (by kernel_rfl) rfl rfl (by rfl) (by go_simp;try rfl) (fun h=>by cases h) ?_
     try simp only[Ja]
     refine Z3 (by kernel_rfl) ?_ _
     clear hS3 hSW
     have HDEC:=Jh (HCD.out.trans hdec)
     clear hdec
     have hcf:=Tp (by omega) HDEC.out
     have hul:=hcf.2
     obtain ⟨⟨pa,pn,pc⟩,ep⟩:=hown.sl
     dsimp only at ep
     subst ep
     obtain ⟨⟨va,vn,vc⟩,ev⟩:=HR3.out.own.sl
     dsimp only at ev
     subst ev
     have HOWN:Hid (Own Zr 1 3 (lo+1) w3 (.slice pa pn pc) l):=Jh (hown.mono HR1.out.siz)
     obtain ⟨a1,c1,hsl,hS1,-⟩:=ZW (P:=Tryz.prog) (ea:=u8c) Tryz.underlying22 Zl ta r2.length tcap u htc hul
     have HBY:=Jh (hS1 w0 r2 rfl HR3.out.tks.byt)
     obtain ⟨i0,hi,hy0,hy1,hy2⟩:=info_parts Qf
     have HBD:Hid (rs.length+1≤maxLen∧(rs.length+1)*24≤140737488355328):=Jh (by rw[HR3.out.len];unfold maxLen;omega)
     have c0:=cell_of_one HR3.out.row
     have hne:¬ T=lo:=by have:=HR3.out.apt.1;omega
     clear hown hcf hS1
     go_wp2_with (at_builtin;refine ZS rfl _ _ _ rfl i0 _ 24 Tryz.underlying161 hi hy0 hy1 hy2 rfl (by omega) QA Z3a rfl (HR3.out.own.alloc _) (⟨pa,pn,pc⟩:Sl) w3.heap.size 1 rfl (Z36 _ ⟨pa,pn,pc⟩) HBD.out.1 HBD.out.2 (by have:=HR3.out.siz;simp;omega) ?_)
     intro v' w4 hown4 hx4 hn4
     obtain ⟨⟨ua,un,uc⟩,e4⟩:=hown4.sl
     dsimp only at e4
     subst e4
     have hxa:Ext (fun b=>(Value.slice va vn vc).ownBlock=some b) w3 w4:=((Ext.refl _ _).alloc _).andThen hx4 (fun i hi e=>e)
     have g4:w4.heap[lo]?=some (.cells #[.slice va vn vc] 161 (0,0)):=(hxa.block _ (by have:=HR3.out.siz;omega) (fun e=>by have:=(HR3.out.own.blk _ e).1;omega)).trans HR3.out.row
     have gT:w4.heap[T]?=some (.cells #[.slice ta r2.length tcap,.slice la ls.length lc] 90 (0,0)):=(hxa.block _ (by have:=HR3.out.siz;have:=HR3.out.apt.1;omega) (fun e=>by have:=(HR3.out.own.blk _ e).1;have:=HR3.out.apt.1;omega)).trans HR3.out.tks.cell
     have c4:=cell_of_one g4
     have f4:=free_of_one g4
     have cT:w4.cell? ⟨T,0,none⟩=some (.slice ta r2.length tcap):=by simp[World.cell?,gT]
     have fT:w4.frozen? ⟨T,0,none⟩=false:=by simp[World.frozen?,gT]
     have HN:=Jh (HR3.out.push (by omega) HDEC.out HOWN.out hown4 hx4 HBY.out)
     clear hown4 hx4 hn4 hxa g4 gT HOWN HBY c0
     go_wp2_with fail
     go_roundg (21 - (k+1))
     case measure=>rw[HG.out];omega
     case rel=>exact ⟨k+1,_,_,_,_,_,rfl,by simp,by omega,HN⟩
    ·have hS3:(fun W:World=>W.cell? ⟨T,0,none⟩=some (.slice ta r2.length tcap)∧W.cell? ⟨T,1,none⟩=some (.slice la ls.length lc)) w3:=⟨(hb.cell (p:=⟨T,0,none⟩) (Zh hSW.1)).trans hSW.1,(hb.cell (p:=⟨T,1,none⟩) (Zh hSW.2)).trans hSW.2⟩
     have HR3:=Jh (HR1.out.below hb)
     refine ⟨_,rfl,fun _=>hS3,?_⟩
     try simp only[Ja]
     refine J2 11 19 (.tuple #[.slice none 0 0,.int .i64 0,.int .i64 41]) hS3 ?_
     try simp only[Ja]
     refine J2 12 31 (.slice none 0 0) hS3 ?_
     try simp only[Ja]
     refine J2 13 32 (.int .i64 0) hS3 ?_
     try simp only[Ja]
     refine J2 14 33 (.int .i64 41) hS3 ?_
     try simp only[Ja]
     refine J2 15 7 (.slice none 0 0) hS3 ?_
     try simp only[Ja]
     refine J2 16 8 (.int .i64 0) hS3 ?_
     try simp only[Ja]
     refine Zy (i:=17) (d:=some 9) (v:=.int .i64 41) (w':=w3) (by kernel_rfl) rfl rfl (by rfl) (by go_simp;try rfl) (fun h=>by cases h) ?_
     try simp only[Ja]
     refine Z3 (by kernel_rfl) ?_ _
     clear hS3 hSW
     have HBAD:Hid (ZP ls.length 21 r=none):=Jh (SY HR3.out.dec (HCD.out.trans hdec) hlt)
     clear hdec
     go_wp2_with fail
     go_ret
     exact .inr ⟨HBAD.out,⟨_,_,rfl⟩,HR3.out.tks.kp⟩
  ·obtain rfl:k=21:=by omega
   have hk1:¬ (21:Int)<21:=by omega
   have hc0:=HR.out.tks.cell
   have c1:wr.cell? ⟨T,1,none⟩=some (.slice la ls.length lc):=by simp[World.cell?,hc0]
   have HN0:Hid (N2 w0 T (.slice la ls.length lc) ls lo tb1 rv L r2 rs 0 wr):=Lib.hid ⟨by rw[Z4K];exact HR.out.tks,HR.out.row,HR.out.own,HR.out.num,HR.out.siz⟩
   have HF:Hid (ZP ls.length 21 r=some (L,r2)∧rs.length=21∧T<lo∧(∀ b,(Value.slice la ls.length lc).ownBlock=some b→b<lo)):=Lib.hid ⟨HR.out.dec,HR.out.len,HR.out.apt⟩
   clear hc0 hk hlt HR
   go_wp2_with fail
   clear c1
   go_loopg [59] ls.length (fun g kv wx=>∃ i:Nat,g=ls.length - i∧kv=.int .i64 i∧i≤ls.length∧Hid (N2 w0 T (.slice la ls.length lc) ls lo tb1 rv L r2 rs i wx))
   case atStart=>exact ⟨0,rfl,rfl,by omega,HN0⟩
   case round =>
    clear HN0
    obtain ⟨i,hg,rfl,hk,HR⟩:=hrel
    have HG:=Lib.hid hg
    clear hg
    by_cases hlt:i<ls.length
    ·have hk1:(i:Int)<(ls.length:Int):=by omega
     go_upto_region 18 with fail
     obtain ⟨x,hx⟩:∃ x,ls[i]?=some x:=⟨_,List.getElem?_eq_getElem hlt⟩
     have HX:=Lib.hid hx
     obtain ⟨g,cap,e,hg1,hg2⟩:=HR.out.tks.own.eq_slice.resolve_left (fun e=>by have h2:=e.2;have h3:=Uf L i ls;rw[h2] at h3;simp at h3;omega)
     injection e with e1 e2 e3
     subst e1 e3
     clear e2
     have hgl:g<lo:=HF.out.2.2.2 g rfl
     have hc0:=HR.out.tks.cell
     have hsz:=HR.out.siz
     have hTl:=HF.out.2.2.1
     have hi0:(0:Int)≤(i:Int):=by omega
     have HNR:=Jh (HR.out.reads HF.out.2.1 (UR (by omega) HF.out.1) hlt)
     obtain ⟨W1,hW1⟩:=Je ((wr.alloc (.cells #[.int .i64 i] 3)).alloc (.cells #[.int .i64 0] 3))
     have hz1:W1.heap.size=wr.heap.size+2:=by rw[←hW1];simp
     have hx1:Ext (fun _=>False) wr W1:=by rw[←hW1];exact ((Ext.refl _ _).alloc _).alloc _
     have hBi:W1.heap[wr.heap.size]?=some (.cells #[.int .i64 i] 3 (0,0)):=by rw[←hW1];exact (Below.heap_alloc _ _ _ (by simp)).trans (ZD wr _)
     have hBc:W1.heap[wr.heap.size+1]?=some (.cells #[.int .i64 0] 3 (0,0)):=by
      rw[←hW1]
      have:=ZD (wr.alloc (.cells #[.int .i64 i] 3)) (.cells #[.int .i64 0] 3)
      rwa [World.size_alloc] at this
     rw[hW1]
     clear hW1
     have hSW:(fun W:World=>W.cell? ⟨T,1,none⟩=some (.slice (some ⟨g,0,none⟩) ls.length lc)∧W.cell? ⟨wr.heap.size,0,none⟩=some (.int .i64 i)) W1.drew:=⟨by show World.cell? W1 _=_;simp[World.cell?,(hx1.block T (by omega) id).trans hc0],cell_of_one hBi⟩
     refine Z8 (fun W:World=>W.cell? ⟨T,1,none⟩=some (.slice (some ⟨g,0,none⟩) ls.length lc)∧W.cell? ⟨wr.heap.size,0,none⟩=some (.int .i64 i)) (fun _=>false) (by kernel_rfl) ?_
     have hxd:Ext (fun _=>False) W1 W1.drew:=(Ext.refl _ _).drew
     have HW:=Jh (And.intro hz1 (And.intro hx1 (And.intro hBi (And.intro hBc hxd))))
     clear hz1 hx1 hBi hBc hxd hc0
     have hz:W1.drew.heap.size=W1.heap.size:=rfl
     generalize hWd:W1.drew=W2 at hSW HW hz ⊢
     have HX1:Hid (Ext (fun _=>False) wr W2∧W2.heap.size=wr.heap.size+2∧W2.heap[wr.heap.size]?=some (.cells #[.int .i64 i] 3 (0,0))∧W2.heap[wr.heap.size+1]?=some (.cells #[.int .i64 0] 3 (0,0))):=Jh (by
      have h:=HW.out
      refine ⟨h.2.1.andThen h.2.2.2.2 (fun _ _ f=>f),hz.trans h.1,(h.2.2.2.2.block _ (by omega) id).trans h.2.2.1,(h.2.2.2.2.block _ (by omega) id).trans h.2.2.2.1⟩)
     clear hWd HW hz
     refine J2 0 62 _ hSW ?_
     try simp only[Ja]
     refine J2 1 63 (.pointer (some ⟨T,0,none⟩)) hSW ?_
     try simp only[Ja]
     refine J2 2 64 (.pointer (some ⟨T,1,none⟩)) hSW ?_
     try simp only[Ja]
     refine J2 3 65 (.slice (some ⟨g,0,none⟩) ls.length lc) hSW ?_
     try simp only[Ja]
     refine J2 4 66 (.int .i64 i) hSW ?_
     try simp only[Ja]
     refine J2 5 67 (.pointer (some ⟨g,i*26,none⟩)) hSW ?_
     try simp only[Ja]
     refine J2 6 68 (.func (.func 155) #[] #[.pointer (some ⟨lo,0,none⟩),.pointer (some ⟨wr.heap.size+1,0,none⟩),.pointer (some ⟨wr.heap.size,0,none⟩)]) hSW ?_
     try simp only[Ja]
     obtain ⟨rb,rcap,erv,rb1,rb2,hrow⟩:=HNR.out
     have hbe:Ext (fun _=>False) wr W2:=HX1.out.1
     have hz2:=HX1.out.2.1
     have hN:NR W2 lo (wr.heap.size+2) lo wr.heap.size rb rcap i (Uq L i) (wr.heap.size+1) :=
      ⟨by rw[←erv];exact cell_of_one ((hbe.block _ (by omega) id).trans HR.out.row),cell_of_one HX1.out.2.2.1,fun c hc=>by
       obtain ⟨sb,sn,sc,q1,q2,q3,q4⟩:=hrow c hc
       exact ⟨sb,sn,sc,hbe.keep q1 id,⟨by omega,by omega,by omega⟩,q3,hbe.keep q4 id⟩,⟨⟨Nat.le_refl _,by omega,by omega⟩,⟨by omega,by omega,by omega⟩,⟨by omega,by omega,by omega⟩,by omega,by omega⟩⟩
     have hJ0:JN W2 lo (wr.heap.size+2) (wr.heap.size+1) 0 (fun k=>k<lo) W2:=⟨fun k hk=>.inl hk,fun _ _ _ _=>rfl,HX1.out.2.2.2,by omega,by omega,by omega⟩
     have hN2:=HR.out.ext hbe (fun _ f=>f.elim) HF.out.2.2
     have hown3:=hN2.tks.own
     rw[show ls.length=(YV L i ls).length from (Uf L i ls).symm] at hown3
     have hAt:At g (i*26) x (fld x) W2:=At.of_cells (fun j u hj=>hown3.cellAt OpD.len (Z2V L i HX.out) hj) (fun j _=>hown3.free _)
     refine Zw (i:=7) (d:=some 69) (f:=92) (args:=#[.pointer (some ⟨g,i*26,none⟩),.func (.func 155) #[] #[.pointer (some ⟨lo,0,none⟩),.pointer (some ⟨wr.heap.size+1,0,none⟩),.pointer (some ⟨wr.heap.size,0,none⟩)]]) (w':=W2) (by kernel_rfl) rfl rfl (by rfl) (by go_simp;try rfl) ?_
     refine (Ry (enters_of Tryz.func155 (by kernel_rfl) rfl) g (i*26) x (Uq L i) (JN W2 lo (wr.heap.size+2) (wr.heap.size+1)) (fun k=>k<lo) W2 (Z60 hN (fld x)) (JN.jok _ _ _ _ _) hgl hAt hJ0).mono ?_
     rintro e w3 ⟨⟨v3,rfl⟩,hJ,hA3,hx3,hR3⟩
     have hxx:Ext (fun k=>k=g∨k=wr.heap.size+1) W2 w3:=⟨hx3.os,hx3.tape,hx3.output,hx3.size,fun k hk hn=>by
      by_cases h:k<lo
      ·exact hx3.block k hk (fun e=>e.elim (fun e=>e h) (fun e=>hn (.inl e)))
      ·exact hJ.2.1 k (by omega) (by omega) (fun e=>hn (.inr e))⟩
     have HN:Hid (N2 w0 T (.slice (some ⟨g,0,none⟩) ls.length lc) ls lo tb1 rv L r2 rs (i+1) w3):=Jh (hN2.put HR.out hxx (by omega) HX.out hA3 hR3 HF.out.2.2)
     refine ⟨_,rfl,fun _=>⟨hxx.keep hSW.1 (fun e=>e.elim (fun e=>?_) (fun e=>by omega)),hxx.keep hSW.2 (fun e=>by omega)⟩,?_⟩
     ·have h1:=hN2.tks.cell
      obtain ⟨c2,h2⟩:=hN2.tks.own.tag (b:=g) rfl
      rw[e,h2] at h1
      cases h1
     try simp only[Ja]
     refine Z3 (by kernel_rfl) ?_ _
     clear hxx hx3 hJ hA3 hR3 hAt hown3 hN2 hJ0 hN hbe hrow hSW HX1 HNR HR
     go_wp2_with fail
     go_roundg (ls.length - (i+1))
     case measure=>rw[HG.out];omega
     case rel=>exact ⟨i+1,rfl,by simp,by omega,HN⟩
    ·obtain rfl:i=ls.length:=by omega
     have hk1:¬ (ls.length:Int)<(ls.length:Int):=by omega
     go_wp2_with fail
     go_ret
     exact .inl ⟨_,_,HF.out.1,rfl,_,HR.out.tks⟩
end Go.Proofs.YtgmdimbiipemhaaGreatDoor
namespace Go.Proofs.YtgmdimbiipemhaaGreatDoor
open Go.RowKit Go.Extern.Stop Go.Stop Go.Extern
theorem Z74 (t:Value) (w:World) :
  Calls Tryz.prog 52 #[.nilIface,t] w fun e w'=>e=.returned (.bool false)∧w'=w:=by
 go_enter Tryz.func52,Tryz.ntmps52
 go_wp2
 go_ret
 exact ⟨rfl,rfl⟩
theorem Tryz.valueOfP (t:Addr) (w:World):(ReflectliteValue.unpack (.iface 96 (.pointer (some t)))).run Tryz.prog w
  = .ok (.agg #[.pointer (some ⟨5,96,none⟩),.pointer (some ⟨w.heap.size,0,none⟩),.int .u64 150]) (w.alloc (.cells #[.pointer (some t)] 96)):=by kernel_rfl
theorem Tryz.typeP (a : Addr) (w : World) : (ReflectliteValue.methodAny (ReflectliteValue.valueError "reflectlite.Value.Type" 0) (fun t _ _ _ => ReflectliteType.toType t) #[.agg #[.pointer (some ⟨5, 96, none⟩), .pointer (some a), .int .u64 150]]).run Tryz.prog w
  = .ok (.iface 234 (.agg #[.pointer (some ⟨5,96,none⟩)])) w:=by kernel_rfl
theorem Tryz.kindP (w:World):((ReflectliteType.abiMethod fun t=>(fun a:Nat=>Value.int IntKind.u8 (a:Int)) <$> Rtype.kind t) #[.pointer (some ⟨5,96,none⟩)]).run Tryz.prog w=.ok (.int .u8 22) w:=by kernel_rfl
theorem Tryz.kindF (w:World):((ReflectliteType.abiMethod fun t=>(fun a:Nat=>Value.int IntKind.u8 (a:Int)) <$> Rtype.kind t) #[.pointer (some ⟨5,91,none⟩)]).run Tryz.prog w=.ok (.int .u8 2) w:=by kernel_rfl
theorem rlm (z:Sem Value) (f:TypeId→Addr→Nat→Nat→Sem Value) (v:Value) :
  ReflectliteValue.method z f #[v]=(do match ←ReflectliteValue.parts v with|none=>z|some (t,a,fl)=>f t a fl (fl % 32)):=rfl
theorem Tryz.partsP (a:Addr) (w:World):(ReflectliteValue.parts (.agg #[.pointer (some ⟨5,96,none⟩),.pointer (some a),.int .u64 150])).run Tryz.prog w=.ok (some (96,a,150)) w:=by kernel_rfl
theorem Tryz.isNilP (a p:Addr) (W:World) (ha:W.cell? a=some (.pointer (some p))) :
  (ReflectliteValue.method (ReflectliteValue.valueError "reflectlite.Value.IsNil" 0) ReflectliteValue.isNil #[.agg #[.pointer (some ⟨5, 96, none⟩), .pointer (some a), .int .u64 150]]).run Tryz.prog W = .ok (.bool false) W := by
 rw[rlm]
 simp only[Sem.run_bind,Tryz.partsP,Result.andThen]
 simp[ReflectliteValue.isNil,loadVar,isAgg,underlying,Tryz.underlying96,ha,Result.andThen]
theorem Tryz.elemP (w:World):(ReflectliteType.method ReflectliteType.elem #[.agg #[.pointer (some ⟨5,96,none⟩)]]).run Tryz.prog w=.ok (.iface 234 (.agg #[.pointer (some ⟨5,91,none⟩)])) w:=by kernel_rfl
theorem Tryz.implementsF (w : World) : (ReflectliteType.relation "Implements" ReflectliteType.implements_ #[.agg #[.pointer (some ⟨5, 91, none⟩)], .iface 234 (.agg #[.pointer (some ⟨5, 94, none⟩)])]).run Tryz.prog w = .ok (.bool true) w := by kernel_rfl
theorem Tryz.typeOfA (v:Value) (w:World):(ReflectliteType.typeOf #[.iface 187 v]).run Tryz.prog w=.ok (.iface 234 (.agg #[.pointer (some ⟨5,187,none⟩)])) w:=by kernel_rfl
theorem Tryz.typeOfF (v:Value) (w:World):(ReflectliteType.typeOf #[.iface 91 v]).run Tryz.prog w=.ok (.iface 234 (.agg #[.pointer (some ⟨5,91,none⟩)])) w:=by kernel_rfl
theorem Tryz.assignableA (w : World) : (ReflectliteType.relation "AssignableTo" ReflectliteType.assignableTo #[.agg #[.pointer (some ⟨5, 187, none⟩)], .iface 234 (.agg #[.pointer (some ⟨5, 91, none⟩)])]).run Tryz.prog w = .ok (.bool false) w := by kernel_rfl
theorem Tryz.assignableF (w : World) : (ReflectliteType.relation "AssignableTo" ReflectliteType.assignableTo #[.agg #[.pointer (some ⟨5, 91, none⟩)], .iface 234 (.agg #[.pointer (some ⟨5, 91, none⟩)])]).run Tryz.prog w = .ok (.bool true) w := by kernel_rfl
theorem Tryz.valueOfF (n:Int) (w:World):(ReflectliteValue.unpack (.iface 91 (.int .i64 n))).run Tryz.prog w
  = .ok (.agg #[.pointer (some ⟨5,91,none⟩),.pointer (some ⟨w.heap.size,0,none⟩),.int .u64 130]) (w.alloc (.cells #[.int .i64 n] 91)):=by kernel_rfl
theorem Tryz.elemOfP (w:World):(Rtype.elem? 96).run Tryz.prog w=.ok (some 91) w:=by kernel_rfl
theorem Tryz.mkF (p:Addr) (w:World):(ReflectliteValue.mk 91 p ReflectliteValue.flagAddr).run Tryz.prog w=.ok (.agg #[.pointer (some ⟨5,91,none⟩),.pointer (some p),.int .u64 386]) w:=by kernel_rfl
theorem Tryz.elemV (a p:Addr) (W:World) (ha:W.cell? a=some (.pointer (some p))) :
  (ReflectliteValue.method (ReflectliteValue.valueError "reflectlite.Value.Elem" 0) ReflectliteValue.elem #[.agg #[.pointer (some ⟨5, 96, none⟩), .pointer (some a), .int .u64 150]]).run Tryz.prog W
   = .ok (.agg #[.pointer (some ⟨5,91,none⟩),.pointer (some p),.int .u64 386]) W:=by
 rw[rlm]
 simp only[Sem.run_bind,Tryz.partsP,Result.andThen]
 simp[ReflectliteValue.elem,loadVar,isAgg,underlying,Tryz.underlying96,ha,Result.andThen,Tryz.elemOfP,Tryz.mkF]
theorem rls (v x:Value):ReflectliteValue.set #[v,x]=(do
  let (some (dst,a,fl),some (src,b,_)):=(←ReflectliteValue.parts v,←ReflectliteValue.parts x)
   | unsupported (.noEntry "extern/(internal/reflectlite.Value).Set.zeroValue")
  if fl / ReflectliteValue.flagAddr % 2 == 0 then unsupported (.noEntry "extern/(internal/reflectlite.Value).Set.unaddressable")
  let val ←loadVar src b
  if ←Rtype.directlyAssignable dst src then storeVar dst a val
  else if ←Rtype.implements dst src then
   if (←Rtype.kind src) == 20 then
    match val with
    | .nilIface => unsupported (.noEntry "extern/reflectlite: a nil value of one interface type handed on as a value of another")
    | _=>storeVar dst a val
   else storeVar dst a (.iface src val)
  else panicString ("reflectlite.Set: value of type " ++ (← Rtype.spelt src) ++ " is not assignable to type " ++ (← Rtype.spelt dst))
  pure (.tuple #[])):=rfl
theorem Tryz.partsFa (a:Addr) (w:World):(ReflectliteValue.parts (.agg #[.pointer (some ⟨5,91,none⟩),.pointer (some a),.int .u64 386])).run Tryz.prog w=.ok (some (91,a,386)) w:=by kernel_rfl
theorem Tryz.partsF (a:Addr) (w:World):(ReflectliteValue.parts (.agg #[.pointer (some ⟨5,91,none⟩),.pointer (some a),.int .u64 130])).run Tryz.prog w=.ok (some (91,a,130)) w:=by kernel_rfl
theorem Tryz.directF (w:World):(Rtype.directlyAssignable 91 91).run Tryz.prog w=.ok true w:=by kernel_rfl
theorem Tryz.setF (ta b:Addr) (n:Int) (old:Value) (W:World) (hb:W.cell? b=some (.int .i64 n)) (ht:W.cell? ta=some old) (hf:W.frozen? ta=false) :
  (ReflectliteValue.set #[.agg #[.pointer (some ⟨5,91,none⟩),.pointer (some ta),.int .u64 386],.agg #[.pointer (some ⟨5,91,none⟩),.pointer (some b),.int .u64 130]]).run Tryz.prog W
   = .ok (.tuple #[]) (W.setCell ta (.int .i64 n)):=by
 rw[rls]
 simp only[Sem.run_bind,Tryz.partsFa,Tryz.partsF,Result.andThen]
 simp[ReflectliteValue.flagAddr,loadVar,isAgg,underlying,Tryz.underlying91,hb,Result.andThen,Tryz.directF,storeVar,Value.cells,storeCells,Addr.add]
 rw[run_store Tryz.prog W ta _ _ (by rfl)]
 simp[ht,hf]
theorem UW (nm:String) (sg:TypeId) (got:Array Method) (h:(got.any fun m=>m.name == nm && m.sig == sg)=false):∃ s,Instr.missingMethod #[(nm,sg)] got=some s:=by
 unfold Instr.missingMethod
 simp only[List.filter,h,Bool.not_false,List.map]
 cases hc:nm.contains '.' with
 | true=>simp[List.partition,List.partition.loop,hc,Instr.least]
 | false=>simp[List.partition,List.partition.loop,hc,Instr.least]
theorem Tryz.infoAt : (Tryz.prog.info? 187).map (fun i => i.methods.any fun m => m.name == "As" && m.sig == 241) = some false := by kernel_rfl
theorem Tryz.undAs : Tryz.prog.underlying 239 = some (.interface #[("As", 241)]) := by kernel_rfl
theorem Tryz.zeroAs (w:World):(zeroValue 239).run Tryz.prog w=.ok .nilIface w:=by kernel_rfl
theorem Tryz.noAs (v:Value) (w:World):(Instr.typeAssert (.iface 187 v) 94 239 true).run Tryz.prog w=.ok (.tuple #[.nilIface,.bool false]) w:=by
 obtain ⟨i, hi, hm⟩ : ∃ i, Tryz.prog.info? 187 = some i ∧ (i.methods.any fun m => m.name == "As" && m.sig == 241) = false := by
  have h:=Tryz.infoAt
  cases hh:Tryz.prog.info? 187 with
  | none=>rw[hh] at h;cases h
  | some i=>rw[hh] at h;exact ⟨i,rfl,Option.some.inj h⟩
 obtain ⟨s,hs⟩:=UW _ _ _ hm
 have hz:=Tryz.zeroAs w
 unfold Instr.typeAssert
 simp[run_underlying Tryz.undAs,typeInfo,hi,hs,hz,Result.andThen]
theorem Tryz.hasUn (v:Value) (w:World):(Instr.typeAssert (.iface 187 v) 94 242 true).run Tryz.prog w=.ok (.tuple #[.iface 187 v,.bool true]) w:=by kernel_rfl
theorem Z48 (what:ByteArray) (x:Value) (w:World):Calls Tryz.prog 250 #[.agg #[.string what,x]] w fun e w'=>e=.returned x∧w'=w.alloc (.cells #[.string what,x] 187):=by
 go_enter Tryz.func250,Tryz.ntmps250
 go_wp2
 go_ret
 exact ⟨rfl,rfl⟩
theorem Tryz.methodKind (n : Nat) (h : Value) (w : World) : (Go.method (n + 1) 234 (.agg #[h]) "Kind").run Tryz.prog w = .ok (241, h) w := by kernel_rfl
theorem Tryz.methodElem (n : Nat) (h : Value) (w : World) : (Go.method (n + 1) 234 (.agg #[h]) "Elem").run Tryz.prog w = .ok (260, .agg #[h]) w := by kernel_rfl
theorem Tryz.methodImplements (n : Nat) (h : Value) (w : World) : (Go.method (n + 1) 234 (.agg #[h]) "Implements").run Tryz.prog w = .ok (261, .agg #[h]) w := by kernel_rfl
theorem Tryz.methodAssignableTo (n : Nat) (h : Value) (w : World) : (Go.method (n + 1) 234 (.agg #[h]) "AssignableTo").run Tryz.prog w = .ok (258, .agg #[h]) w := by kernel_rfl
theorem Tryz.methodUnwrap (n : Nat) (h : Value) (w : World) : (Go.method (n + 1) 187 h "Unwrap").run Tryz.prog w = .ok (250, h) w := by kernel_rfl
theorem Z7a (what:ByteArray) (n:Int) (t:Addr) (A0:Nat) (old:Value) (w:World) (hA:w.cell? ⟨A0,0,none⟩=some (.pointer (some t))) (ht0:w.cell? t=some old) (hf0:w.frozen? t=false) :
  Calls Tryz.prog 102 #[.iface 187 (.agg #[.string what,.iface 91 (.int .i64 n)]),.iface 96 (.pointer (some t)),.agg #[.pointer (some ⟨5,96,none⟩),.pointer (some ⟨A0,0,none⟩),.int .u64 150],.iface 234 (.agg #[.pointer (some ⟨5,91,none⟩)])] w fun ev w'=>ev=.returned (.bool true)∧Ext (·=t.block) w w':=by
 have h6:=@run_callFunc_extern Tryz.prog 99 _ (fun args=>ReflectliteValue.unpack (args.getD 0 (.tuple #[]))) Tryz.func99 (by kernel_rfl) (by kernel_rfl) (by kernel_rfl) (by kernel_rfl)
 have h10:=@run_callFunc_extern Tryz.prog 150 _ ReflectliteType.typeOf Tryz.func150 (by kernel_rfl) (by kernel_rfl) (by kernel_rfl) (by kernel_rfl)
 have h35 := @run_callFunc_extern Tryz.prog 258 _ (ReflectliteType.relation "AssignableTo" ReflectliteType.assignableTo) Tryz.func258 (by kernel_rfl) (by kernel_rfl) (by kernel_rfl) (by kernel_rfl)
 have h11 := @run_callFunc_extern Tryz.prog 151 _ (ReflectliteValue.method (ReflectliteValue.valueError "reflectlite.Value.Elem" 0) ReflectliteValue.elem) Tryz.func151 (by kernel_rfl) (by kernel_rfl) (by kernel_rfl) (by kernel_rfl)
 have h12:=@run_callFunc_extern Tryz.prog 152 _ ReflectliteValue.set Tryz.func152 (by kernel_rfl) (by kernel_rfl) (by kernel_rfl) (by kernel_rfl)
 have mA:=Tryz.methodAssignableTo
 have mU:=Tryz.methodUnwrap
 have tA:=Tryz.typeOfA
 have tF:=Tryz.typeOfF
 have aA:=Tryz.assignableA
 have aF:=Tryz.assignableF
 have nA:=Tryz.noAs
 have hU:=Tryz.hasUn
 have vF:=Tryz.valueOfF
 have hAl:A0<w.heap.size:=Zh hA
 have htl:t.block<w.heap.size:=by
  rcases Nat.lt_or_ge t.block w.heap.size with h|h
  ·exact h
  ·simp[World.cell?,Array.getElem?_eq_none h] at ht0
 have el:=Tryz.elemV ⟨A0,0,none⟩ t ((w.alloc (.cells #[.pointer (some ⟨5,96,none⟩),.pointer (some ⟨A0,0,none⟩),.int .u64 150] 177)).alloc (.cells #[.string what,.iface 91 (.int .i64 n)] 187)) (by rw[World.cell?_alloc_lt _ _ ⟨A0,0,none⟩ (by simp;omega),World.cell?_alloc_lt _ _ ⟨A0,0,none⟩ hAl];exact hA)
 have st:=Tryz.setF t ⟨w.heap.size+1+1,0,none⟩ n old (((w.alloc (.cells #[.pointer (some ⟨5,96,none⟩),.pointer (some ⟨A0,0,none⟩),.int .u64 150] 177)).alloc (.cells #[.string what,.iface 91 (.int .i64 n)] 187)).alloc (.cells #[.int .i64 n] 91)) (by rw[World.cell?_alloc_at _ _ _ _ (by simp)];rfl)
  (by rw[World.cell?_alloc_lt _ _ t (by simp;omega),World.cell?_alloc_lt _ _ t (by simp;omega),World.cell?_alloc_lt _ _ t htl];exact ht0)
  (by rw[World.frozen?_alloc_old _ _ t (by simp;omega),World.frozen?_alloc_old _ _ t (by simp;omega),World.frozen?_alloc_old _ _ t (Nat.ne_of_lt htl)];exact hf0)
 clear ht0 hf0 hA
 go_enter Tryz.func102,Tryz.ntmps102
 go_wp2_with fail
 refine wp_loop_rounds 2 ?_
 rw[rounds_succ]
 go_wp2_with (first|(go_at_call 250;refine (Z48 what (.iface 91 (.int .i64 n)) _).mono ?_;rintro e w' ⟨rfl,rfl⟩))
 rw[rounds_succ]
 go_wp2_with fail
 go_ret
 refine ⟨rfl,?_⟩
 exact ((((Ext.refl (·=t.block) w).alloc _).alloc _).alloc _).setCell (p:=t) (.inr rfl) _
theorem Z6Z (what:ByteArray) (n:Int) (t:Addr) (old:Value) (w:World) (hg:w.cell? ⟨0,0,none⟩=some (.iface 234 (.agg #[.pointer (some ⟨5,94,none⟩)]))) (ht0:w.cell? t=some old) (hf0:w.frozen? t=false) :
  Calls Tryz.prog 52 #[Uu what n,.iface 96 (.pointer (some t))] w fun ev w'=>ev=.returned (.bool true)∧Ext (·=t.block) w w':=by
 have h6:=@run_callFunc_extern Tryz.prog 99 _ (fun args=>ReflectliteValue.unpack (args.getD 0 (.tuple #[]))) Tryz.func99 (by kernel_rfl) (by kernel_rfl) (by kernel_rfl) (by kernel_rfl)
 have h7 := @run_callFunc_extern Tryz.prog 100 _ (ReflectliteValue.methodAny (ReflectliteValue.valueError "reflectlite.Value.Type" 0) (fun t _ _ _ => ReflectliteType.toType t)) Tryz.func100 (by kernel_rfl) (by kernel_rfl) (by kernel_rfl) (by kernel_rfl)
 have h8 := @run_callFunc_extern Tryz.prog 101 _ (ReflectliteValue.method (ReflectliteValue.valueError "reflectlite.Value.IsNil" 0) ReflectliteValue.isNil) Tryz.func101 (by kernel_rfl) (by kernel_rfl) (by kernel_rfl) (by kernel_rfl)
 have h27:=@run_callFunc_extern Tryz.prog 241 _ (ReflectliteType.abiMethod fun t=>do pure (.int .u8 (←Rtype.kind t))) Tryz.func241 (by kernel_rfl) (by kernel_rfl) (by kernel_rfl) (by kernel_rfl)
 have h37:=@run_callFunc_extern Tryz.prog 260 _ (ReflectliteType.method ReflectliteType.elem) Tryz.func260 (by kernel_rfl) (by kernel_rfl) (by kernel_rfl) (by kernel_rfl)
 have h38 := @run_callFunc_extern Tryz.prog 261 _ (ReflectliteType.relation "Implements" ReflectliteType.implements_) Tryz.func261 (by kernel_rfl) (by kernel_rfl) (by kernel_rfl) (by kernel_rfl)
 have h10:=@run_callFunc_extern Tryz.prog 150 _ ReflectliteType.typeOf Tryz.func150 (by kernel_rfl) (by kernel_rfl) (by kernel_rfl) (by kernel_rfl)
 have h35 := @run_callFunc_extern Tryz.prog 258 _ (ReflectliteType.relation "AssignableTo" ReflectliteType.assignableTo) Tryz.func258 (by kernel_rfl) (by kernel_rfl) (by kernel_rfl) (by kernel_rfl)
 have h11 := @run_callFunc_extern Tryz.prog 151 _ (ReflectliteValue.method (ReflectliteValue.valueError "reflectlite.Value.Elem" 0) ReflectliteValue.elem) Tryz.func151 (by kernel_rfl) (by kernel_rfl) (by kernel_rfl) (by kernel_rfl)
 have h12:=@run_callFunc_extern Tryz.prog 152 _ ReflectliteValue.set Tryz.func152 (by kernel_rfl) (by kernel_rfl) (by kernel_rfl) (by kernel_rfl)
 have f6:=Tryz.valueOfP
 have f7:=Tryz.typeP
 have k27:=Tryz.kindP
 have k25:=Tryz.kindF
 have e27:=Tryz.elemP
 have i25:=Tryz.implementsF
 have n8:=Tryz.isNilP ⟨w.heap.size,0,none⟩ t ((w.alloc (.cells #[.pointer (some t)] 96)).alloc (.cells #[.pointer (some ⟨5,96,none⟩),.pointer (some ⟨w.heap.size,0,none⟩),.int .u64 150] 177)) (by simp)
 have hlt:0<w.heap.size:=by
  rcases Nat.eq_zero_or_pos w.heap.size with h0|h
  ·simp[World.cell?,h0] at hg
  ·exact h
 have htl:t.block<w.heap.size:=by
  rcases Nat.lt_or_ge t.block w.heap.size with h|h
  ·exact h
  ·simp[World.cell?,Array.getElem?_eq_none h] at ht0
 have hg2:((w.alloc (.cells #[.pointer (some t)] 96)).alloc (.cells #[.pointer (some ⟨5,96,none⟩),.pointer (some ⟨w.heap.size,0,none⟩),.int .u64 150] 177)).cell? ⟨0,0,none⟩=some (.iface 234 (.agg #[.pointer (some ⟨5,94,none⟩)])):=by
  rw[World.cell?_alloc_lt _ _ ⟨0,0,none⟩ (by simp),World.cell?_alloc_lt _ _ ⟨0,0,none⟩ hlt];exact hg
 have mK:=Tryz.methodKind
 have mE:=Tryz.methodElem
 have mI:=Tryz.methodImplements
 have mA:=Tryz.methodAssignableTo
 have mU:=Tryz.methodUnwrap
 have tA:=Tryz.typeOfA
 have tF:=Tryz.typeOfF
 have aA:=Tryz.assignableA
 have aF:=Tryz.assignableF
 have nA:=Tryz.noAs
 have hU:=Tryz.hasUn
 have vF:=Tryz.valueOfF
 unfold Uu
 go_enter Tryz.func52,Tryz.ntmps52
 go_wp2_with fail
 refine (Z7a what n t w.heap.size old _ ?_ ?_ ?_).mono ?_
 ·rw[World.cell?_alloc_lt _ _ ⟨w.heap.size,0,none⟩ (by simp)];simp
 ·rw[World.cell?_alloc_lt _ _ t (by simp;omega),World.cell?_alloc_lt _ _ t htl];exact ht0
 ·rw[World.frozen?_alloc_old _ _ t (by simp;omega),World.frozen?_alloc_old _ _ t (Nat.ne_of_lt htl)];exact hf0
 rintro e w' ⟨rfl,hx⟩
 have HX:Hid (Ext (·=t.block) w w'):=Jh ((((Ext.refl (·=t.block) w).alloc _).alloc _).andThen hx (fun i hi e=>e))
 clear hx
 go_wp2_with fail
 go_ret
 exact ⟨rfl,HX.out⟩
def Y6 (what:ByteArray) (n:Int):Value:=.iface 212 (.agg #[.string what,.iface 204 (.int .i64 n)])
theorem Tryz.valueOfPO09 (t:Addr) (w:World):(ReflectliteValue.unpack (.iface 208 (.pointer (some t)))).run Tryz.prog w
  = .ok (.agg #[.pointer (some ⟨5,208,none⟩),.pointer (some ⟨w.heap.size,0,none⟩),.int .u64 150]) (w.alloc (.cells #[.pointer (some t)] 208)):=by kernel_rfl
theorem Tryz.typePO09 (a : Addr) (w : World) : (ReflectliteValue.methodAny (ReflectliteValue.valueError "reflectlite.Value.Type" 0) (fun t _ _ _ => ReflectliteType.toType t) #[.agg #[.pointer (some ⟨5, 208, none⟩), .pointer (some a), .int .u64 150]]).run Tryz.prog w
  = .ok (.iface 234 (.agg #[.pointer (some ⟨5,208,none⟩)])) w:=by kernel_rfl
theorem Tryz.kindPO09 (w:World):((ReflectliteType.abiMethod fun t=>(fun a:Nat=>Value.int IntKind.u8 (a:Int)) <$> Rtype.kind t) #[.pointer (some ⟨5,208,none⟩)]).run Tryz.prog w=.ok (.int .u8 22) w:=by kernel_rfl
theorem Tryz.kindFO09 (w:World):((ReflectliteType.abiMethod fun t=>(fun a:Nat=>Value.int IntKind.u8 (a:Int)) <$> Rtype.kind t) #[.pointer (some ⟨5,204,none⟩)]).run Tryz.prog w=.ok (.int .u8 2) w:=by kernel_rfl
theorem Tryz.partsPO09 (a:Addr) (w:World):(ReflectliteValue.parts (.agg #[.pointer (some ⟨5,208,none⟩),.pointer (some a),.int .u64 150])).run Tryz.prog w=.ok (some (208,a,150)) w:=by kernel_rfl
theorem Tryz.isNilPO09 (a p:Addr) (W:World) (ha:W.cell? a=some (.pointer (some p))) :
  (ReflectliteValue.method (ReflectliteValue.valueError "reflectlite.Value.IsNil" 0) ReflectliteValue.isNil #[.agg #[.pointer (some ⟨5, 208, none⟩), .pointer (some a), .int .u64 150]]).run Tryz.prog W = .ok (.bool false) W := by
 rw[rlm]
 simp only[Sem.run_bind,Tryz.partsPO09,Result.andThen]
 simp[ReflectliteValue.isNil,loadVar,isAgg,underlying,Tryz.underlying208,ha,Result.andThen]
theorem Tryz.elemPO09 (w:World):(ReflectliteType.method ReflectliteType.elem #[.agg #[.pointer (some ⟨5,208,none⟩)]]).run Tryz.prog w=.ok (.iface 234 (.agg #[.pointer (some ⟨5,204,none⟩)])) w:=by kernel_rfl
theorem Tryz.implementsFO09 (w : World) : (ReflectliteType.relation "Implements" ReflectliteType.implements_ #[.agg #[.pointer (some ⟨5, 204, none⟩)], .iface 234 (.agg #[.pointer (some ⟨5, 94, none⟩)])]).run Tryz.prog w = .ok (.bool true) w := by kernel_rfl
theorem Tryz.typeOfAO09 (v:Value) (w:World):(ReflectliteType.typeOf #[.iface 212 v]).run Tryz.prog w=.ok (.iface 234 (.agg #[.pointer (some ⟨5,212,none⟩)])) w:=by kernel_rfl
theorem Tryz.typeOfFO09 (v:Value) (w:World):(ReflectliteType.typeOf #[.iface 204 v]).run Tryz.prog w=.ok (.iface 234 (.agg #[.pointer (some ⟨5,204,none⟩)])) w:=by kernel_rfl
theorem Tryz.assignableAO09 (w : World) : (ReflectliteType.relation "AssignableTo" ReflectliteType.assignableTo #[.agg #[.pointer (some ⟨5, 212, none⟩)], .iface 234 (.agg #[.pointer (some ⟨5, 204, none⟩)])]).run Tryz.prog w = .ok (.bool false) w := by kernel_rfl
theorem Tryz.assignableFO09 (w : World) : (ReflectliteType.relation "AssignableTo" ReflectliteType.assignableTo #[.agg #[.pointer (some ⟨5, 204, none⟩)], .iface 234 (.agg #[.pointer (some ⟨5, 204, none⟩)])]).run Tryz.prog w = .ok (.bool true) w := by kernel_rfl
theorem Tryz.valueOfFO09 (n:Int) (w:World):(ReflectliteValue.unpack (.iface 204 (.int .i64 n))).run Tryz.prog w
  = .ok (.agg #[.pointer (some ⟨5,204,none⟩),.pointer (some ⟨w.heap.size,0,none⟩),.int .u64 130]) (w.alloc (.cells #[.int .i64 n] 204)):=by kernel_rfl
theorem Tryz.elemOfPO09 (w:World):(Rtype.elem? 208).run Tryz.prog w=.ok (some 204) w:=by kernel_rfl
theorem Tryz.mkFO09 (p:Addr) (w:World):(ReflectliteValue.mk 204 p ReflectliteValue.flagAddr).run Tryz.prog w=.ok (.agg #[.pointer (some ⟨5,204,none⟩),.pointer (some p),.int .u64 386]) w:=by kernel_rfl
theorem Tryz.elemVO09 (a p:Addr) (W:World) (ha:W.cell? a=some (.pointer (some p))) :
  (ReflectliteValue.method (ReflectliteValue.valueError "reflectlite.Value.Elem" 0) ReflectliteValue.elem #[.agg #[.pointer (some ⟨5, 208, none⟩), .pointer (some a), .int .u64 150]]).run Tryz.prog W
   = .ok (.agg #[.pointer (some ⟨5,204,none⟩),.pointer (some p),.int .u64 386]) W:=by
 rw[rlm]
 simp only[Sem.run_bind,Tryz.partsPO09,Result.andThen]
 simp[ReflectliteValue.elem,loadVar,isAgg,underlying,Tryz.underlying208,ha,Result.andThen,Tryz.elemOfPO09,Tryz.mkFO09]
theorem Tryz.partsFaO09 (a:Addr) (w:World):(ReflectliteValue.parts (.agg #[.pointer (some ⟨5,204,none⟩),.pointer (some a),.int .u64 386])).run Tryz.prog w=.ok (some (204,a,386)) w:=by kernel_rfl
theorem Tryz.partsFO09 (a:Addr) (w:World):(ReflectliteValue.parts (.agg #[.pointer (some ⟨5,204,none⟩),.pointer (some a),.int .u64 130])).run Tryz.prog w=.ok (some (204,a,130)) w:=by kernel_rfl
theorem Tryz.directFO09 (w:World):(Rtype.directlyAssignable 204 204).run Tryz.prog w=.ok true w:=by kernel_rfl
theorem Tryz.setFO09 (ta b:Addr) (n:Int) (old:Value) (W:World) (hb:W.cell? b=some (.int .i64 n)) (ht:W.cell? ta=some old) (hf:W.frozen? ta=false) :
  (ReflectliteValue.set #[.agg #[.pointer (some ⟨5,204,none⟩),.pointer (some ta),.int .u64 386],.agg #[.pointer (some ⟨5,204,none⟩),.pointer (some b),.int .u64 130]]).run Tryz.prog W
   = .ok (.tuple #[]) (W.setCell ta (.int .i64 n)):=by
 rw[rls]
 simp only[Sem.run_bind,Tryz.partsFaO09,Tryz.partsFO09,Result.andThen]
 simp[ReflectliteValue.flagAddr,loadVar,isAgg,underlying,Tryz.underlying204,hb,Result.andThen,Tryz.directFO09,storeVar,Value.cells,storeCells,Addr.add]
 rw[run_store Tryz.prog W ta _ _ (by rfl)]
 simp[ht,hf]
theorem Tryz.infoAtO09 : (Tryz.prog.info? 212).map (fun i => i.methods.any fun m => m.name == "As" && m.sig == 241) = some false := by kernel_rfl
theorem Tryz.noAsO09 (v:Value) (w:World):(Instr.typeAssert (.iface 212 v) 94 239 true).run Tryz.prog w=.ok (.tuple #[.nilIface,.bool false]) w:=by
 obtain ⟨i, hi, hm⟩ : ∃ i, Tryz.prog.info? 212 = some i ∧ (i.methods.any fun m => m.name == "As" && m.sig == 241) = false := by
  have h:=Tryz.infoAtO09
  cases hh:Tryz.prog.info? 212 with
  | none=>rw[hh] at h;cases h
  | some i=>rw[hh] at h;exact ⟨i,rfl,Option.some.inj h⟩
 obtain ⟨s,hs⟩:=UW _ _ _ hm
 have hz:=Tryz.zeroAs w
 unfold Instr.typeAssert
 simp[run_underlying Tryz.undAs,typeInfo,hi,hs,hz,Result.andThen]
theorem Tryz.hasUnO09 (v:Value) (w:World):(Instr.typeAssert (.iface 212 v) 94 242 true).run Tryz.prog w=.ok (.tuple #[.iface 212 v,.bool true]) w:=by kernel_rfl
theorem VU (what:ByteArray) (x:Value) (w:World):Calls Tryz.prog 255 #[.agg #[.string what,x]] w fun e w'=>e=.returned x∧w'=w.alloc (.cells #[.string what,x] 212):=by
 go_enter Tryz.func255,Tryz.ntmps255
 go_wp2
 go_ret
 exact ⟨rfl,rfl⟩
theorem Tryz.methodUnwrapO09 (n : Nat) (h : Value) (w : World) : (Go.method (n + 1) 212 h "Unwrap").run Tryz.prog w = .ok (255, h) w := by kernel_rfl
theorem Z5E (what:ByteArray) (n:Int) (t:Addr) (A0:Nat) (old:Value) (w:World) (hA:w.cell? ⟨A0,0,none⟩=some (.pointer (some t))) (ht0:w.cell? t=some old) (hf0:w.frozen? t=false) :
  Calls Tryz.prog 102 #[.iface 212 (.agg #[.string what,.iface 204 (.int .i64 n)]),.iface 208 (.pointer (some t)),.agg #[.pointer (some ⟨5,208,none⟩),.pointer (some ⟨A0,0,none⟩),.int .u64 150],.iface 234 (.agg #[.pointer (some ⟨5,204,none⟩)])] w fun ev w'=>ev=.returned (.bool true)∧Ext (·=t.block) w w'∧w'.cell? t=some (.int .i64 n):=by
 have h6:=@run_callFunc_extern Tryz.prog 99 _ (fun args=>ReflectliteValue.unpack (args.getD 0 (.tuple #[]))) Tryz.func99 (by kernel_rfl) (by kernel_rfl) (by kernel_rfl) (by kernel_rfl)
 have h10:=@run_callFunc_extern Tryz.prog 150 _ ReflectliteType.typeOf Tryz.func150 (by kernel_rfl) (by kernel_rfl) (by kernel_rfl) (by kernel_rfl)
 have h35 := @run_callFunc_extern Tryz.prog 258 _ (ReflectliteType.relation "AssignableTo" ReflectliteType.assignableTo) Tryz.func258 (by kernel_rfl) (by kernel_rfl) (by kernel_rfl) (by kernel_rfl)
 have h11 := @run_callFunc_extern Tryz.prog 151 _ (ReflectliteValue.method (ReflectliteValue.valueError "reflectlite.Value.Elem" 0) ReflectliteValue.elem) Tryz.func151 (by kernel_rfl) (by kernel_rfl) (by kernel_rfl) (by kernel_rfl)
 have h12:=@run_callFunc_extern Tryz.prog 152 _ ReflectliteValue.set Tryz.func152 (by kernel_rfl) (by kernel_rfl) (by kernel_rfl) (by kernel_rfl)
 have mA:=Tryz.methodAssignableTo
 have mU:=Tryz.methodUnwrapO09
 have tA:=Tryz.typeOfAO09
 have tF:=Tryz.typeOfFO09
 have aA:=Tryz.assignableAO09
 have aF:=Tryz.assignableFO09
 have nA:=Tryz.noAsO09
 have hU:=Tryz.hasUnO09
 have vF:=Tryz.valueOfFO09
 have hAl:A0<w.heap.size:=Zh hA
 have htl:t.block<w.heap.size:=by
  rcases Nat.lt_or_ge t.block w.heap.size with h|h
  ·exact h
  ·simp[World.cell?,Array.getElem?_eq_none h] at ht0
 have el:=Tryz.elemVO09 ⟨A0,0,none⟩ t ((w.alloc (.cells #[.pointer (some ⟨5,208,none⟩),.pointer (some ⟨A0,0,none⟩),.int .u64 150] 177)).alloc (.cells #[.string what,.iface 204 (.int .i64 n)] 212)) (by rw[World.cell?_alloc_lt _ _ ⟨A0,0,none⟩ (by simp;omega),World.cell?_alloc_lt _ _ ⟨A0,0,none⟩ hAl];exact hA)
 have st:=Tryz.setFO09 t ⟨w.heap.size+1+1,0,none⟩ n old (((w.alloc (.cells #[.pointer (some ⟨5,208,none⟩),.pointer (some ⟨A0,0,none⟩),.int .u64 150] 177)).alloc (.cells #[.string what,.iface 204 (.int .i64 n)] 212)).alloc (.cells #[.int .i64 n] 204)) (by rw[World.cell?_alloc_at _ _ _ _ (by simp)];rfl)
  (by rw[World.cell?_alloc_lt _ _ t (by simp;omega),World.cell?_alloc_lt _ _ t (by simp;omega),World.cell?_alloc_lt _ _ t htl];exact ht0)
  (by rw[World.frozen?_alloc_old _ _ t (by simp;omega),World.frozen?_alloc_old _ _ t (by simp;omega),World.frozen?_alloc_old _ _ t (Nat.ne_of_lt htl)];exact hf0)
 have hc3:(((w.alloc (.cells #[.pointer (some ⟨5,208,none⟩),.pointer (some ⟨A0,0,none⟩),.int .u64 150] 177)).alloc (.cells #[.string what,.iface 204 (.int .i64 n)] 212)).alloc (.cells #[.int .i64 n] 204)).cell? t=some old:=by
  rw[World.cell?_alloc_lt _ _ t (by simp;omega),World.cell?_alloc_lt _ _ t (by simp;omega),World.cell?_alloc_lt _ _ t htl];exact ht0
 have HC3:=Jh (World.cell?_setCell_same' _ t (.int .i64 n) (by rw[hc3];rfl))
 clear ht0 hf0 hA hc3
 go_enter Tryz.func102,Tryz.ntmps102
 go_wp2_with fail
 refine wp_loop_rounds 2 ?_
 rw[rounds_succ]
 go_wp2_with (first|(go_at_call 255;refine (VU what (.iface 204 (.int .i64 n)) _).mono ?_;rintro e w' ⟨rfl,rfl⟩))
 rw[rounds_succ]
 go_wp2_with fail
 go_ret
 refine ⟨rfl,?_,HC3.out⟩
 exact ((((Ext.refl (·=t.block) w).alloc _).alloc _).alloc _).setCell (p:=t) (.inr rfl) _
theorem Z4I (what:ByteArray) (n:Int) (t:Addr) (old:Value) (w:World) (hg:w.cell? ⟨0,0,none⟩=some (.iface 234 (.agg #[.pointer (some ⟨5,94,none⟩)]))) (ht0:w.cell? t=some old) (hf0:w.frozen? t=false) :
  Calls Tryz.prog 52 #[Y6 what n,.iface 208 (.pointer (some t))] w fun ev w'=>ev=.returned (.bool true)∧Ext (·=t.block) w w'∧w'.cell? t=some (.int .i64 n):=by
 have h6:=@run_callFunc_extern Tryz.prog 99 _ (fun args=>ReflectliteValue.unpack (args.getD 0 (.tuple #[]))) Tryz.func99 (by kernel_rfl) (by kernel_rfl) (by kernel_rfl) (by kernel_rfl)
 have h7 := @run_callFunc_extern Tryz.prog 100 _ (ReflectliteValue.methodAny (ReflectliteValue.valueError "reflectlite.Value.Type" 0) (fun t _ _ _ => ReflectliteType.toType t)) Tryz.func100 (by kernel_rfl) (by kernel_rfl) (by kernel_rfl) (by kernel_rfl)
 have h8 := @run_callFunc_extern Tryz.prog 101 _ (ReflectliteValue.method (ReflectliteValue.valueError "reflectlite.Value.IsNil" 0) ReflectliteValue.isNil) Tryz.func101 (by kernel_rfl) (by kernel_rfl) (by kernel_rfl) (by kernel_rfl)
 have h27:=@run_callFunc_extern Tryz.prog 241 _ (ReflectliteType.abiMethod fun t=>do pure (.int .u8 (←Rtype.kind t))) Tryz.func241 (by kernel_rfl) (by kernel_rfl) (by kernel_rfl) (by kernel_rfl)
 have h37:=@run_callFunc_extern Tryz.prog 260 _ (ReflectliteType.method ReflectliteType.elem) Tryz.func260 (by kernel_rfl) (by kernel_rfl) (by kernel_rfl) (by kernel_rfl)
 have h38 := @run_callFunc_extern Tryz.prog 261 _ (ReflectliteType.relation "Implements" ReflectliteType.implements_) Tryz.func261 (by kernel_rfl) (by kernel_rfl) (by kernel_rfl) (by kernel_rfl)
 have h10:=@run_callFunc_extern Tryz.prog 150 _ ReflectliteType.typeOf Tryz.func150 (by kernel_rfl) (by kernel_rfl) (by kernel_rfl) (by kernel_rfl)
 have h35 := @run_callFunc_extern Tryz.prog 258 _ (ReflectliteType.relation "AssignableTo" ReflectliteType.assignableTo) Tryz.func258 (by kernel_rfl) (by kernel_rfl) (by kernel_rfl) (by kernel_rfl)
 have h11 := @run_callFunc_extern Tryz.prog 151 _ (ReflectliteValue.method (ReflectliteValue.valueError "reflectlite.Value.Elem" 0) ReflectliteValue.elem) Tryz.func151 (by kernel_rfl) (by kernel_rfl) (by kernel_rfl) (by kernel_rfl)
 have h12:=@run_callFunc_extern Tryz.prog 152 _ ReflectliteValue.set Tryz.func152 (by kernel_rfl) (by kernel_rfl) (by kernel_rfl) (by kernel_rfl)
 have f6:=Tryz.valueOfPO09
 have f7:=Tryz.typePO09
 have k27:=Tryz.kindPO09
 have k25:=Tryz.kindFO09
 have e27:=Tryz.elemPO09
 have i25:=Tryz.implementsFO09
 have n8:=Tryz.isNilPO09 ⟨w.heap.size,0,none⟩ t ((w.alloc (.cells #[.pointer (some t)] 208)).alloc (.cells #[.pointer (some ⟨5,208,none⟩),.pointer (some ⟨w.heap.size,0,none⟩),.int .u64 150] 177)) (by simp)
 have hlt:0<w.heap.size:=by
  rcases Nat.eq_zero_or_pos w.heap.size with h0|h
  ·simp[World.cell?,h0] at hg
  ·exact h
 have htl:t.block<w.heap.size:=by
  rcases Nat.lt_or_ge t.block w.heap.size with h|h
  ·exact h
  ·simp[World.cell?,Array.getElem?_eq_none h] at ht0
 have hg2:((w.alloc (.cells #[.pointer (some t)] 208)).alloc (.cells #[.pointer (some ⟨5,208,none⟩),.pointer (some ⟨w.heap.size,0,none⟩),.int .u64 150] 177)).cell? ⟨0,0,none⟩=some (.iface 234 (.agg #[.pointer (some ⟨5,94,none⟩)])):=by
  rw[World.cell?_alloc_lt _ _ ⟨0,0,none⟩ (by simp),World.cell?_alloc_lt _ _ ⟨0,0,none⟩ hlt];exact hg
 have mK:=Tryz.methodKind
 have mE:=Tryz.methodElem
 have mI:=Tryz.methodImplements
 have mA:=Tryz.methodAssignableTo
 have mU:=Tryz.methodUnwrapO09
 have tA:=Tryz.typeOfAO09
 have tF:=Tryz.typeOfFO09
 have aA:=Tryz.assignableAO09
 have aF:=Tryz.assignableFO09
 have nA:=Tryz.noAsO09
 have hU:=Tryz.hasUnO09
 have vF:=Tryz.valueOfFO09
 unfold Y6
 go_enter Tryz.func52,Tryz.ntmps52
 go_wp2_with fail
 refine (Z5E what n t w.heap.size old _ ?_ ?_ ?_).mono ?_
 ·rw[World.cell?_alloc_lt _ _ ⟨w.heap.size,0,none⟩ (by simp)];simp
 ·rw[World.cell?_alloc_lt _ _ t (by simp;omega),World.cell?_alloc_lt _ _ t htl];exact ht0
 ·rw[World.frozen?_alloc_old _ _ t (by simp;omega),World.frozen?_alloc_old _ _ t (Nat.ne_of_lt htl)];exact hf0
 rintro e w' ⟨rfl,hx,hcn⟩
 have HX:Hid (Ext (·=t.block) w w'):=Jh ((((Ext.refl (·=t.block) w).alloc _).alloc _).andThen hx (fun i hi e=>e))
 have HCN:=Lib.hid hcn
 clear hx hcn
 go_wp2_with fail
 go_ret
 exact ⟨rfl,HX.out,HCN.out⟩
def QC (n:Int):Value:=.iface 204 (.int .i64 n)
theorem Tryz.isComparableO (w : World) : ((ReflectliteType.method fun t => (do Rtype.noPackHeld "Comparable" t; (fun a => Value.bool a.comparable) <$> typeInfo t)) #[.agg #[.pointer (some ⟨5, 204, none⟩)]]).run Tryz.prog w = .ok (.bool true) w := by kernel_rfl
theorem Tryz.methodComparable (n : Nat) (h : Value) (w : World) : (Go.method (n + 1) 234 (.agg #[h]) "Comparable").run Tryz.prog w = .ok (259, .agg #[h]) w := by kernel_rfl
theorem Tryz.undIs : Tryz.prog.underlying 262 = some (.interface #[("Is", 264)]) := by kernel_rfl
theorem Tryz.zeroIs (w:World):(zeroValue 262).run Tryz.prog w=.ok .nilIface w:=by kernel_rfl
theorem Tryz.undUn : Tryz.prog.underlying 242 = some (.interface #[("Unwrap", 95)]) := by kernel_rfl
theorem Tryz.zeroUn (w:World):(zeroValue 242).run Tryz.prog w=.ok .nilIface w:=by kernel_rfl
theorem Tryz.undUs : Tryz.prog.underlying 243 = some (.interface #[("Unwrap", 245)]) := by kernel_rfl
theorem Tryz.zeroUs (w:World):(zeroValue 243).run Tryz.prog w=.ok .nilIface w:=by kernel_rfl
theorem Ux (T I:Nat) (nm:String) (sg:TypeId) (v:Value) (w:World) (hu:Tryz.prog.underlying I=some (.interface #[(nm,sg)]))
  (hz:(zeroValue I).run Tryz.prog w=.ok .nilIface w)
  (h:(Tryz.prog.info? T).map (fun i=>i.methods.any fun m=>m.name == nm && m.sig == sg)=some false) :
  (Instr.typeAssert (.iface T v) 94 I true).run Tryz.prog w=.ok (.tuple #[.nilIface,.bool false]) w:=by
 obtain ⟨i,hi,hm⟩:∃ i,Tryz.prog.info? T=some i∧(i.methods.any fun m=>m.name == nm && m.sig == sg)=false:=by
  cases hh:Tryz.prog.info? T with
  | none=>rw[hh] at h;cases h
  | some i=>rw[hh] at h;exact ⟨i,rfl,Option.some.inj h⟩
 obtain ⟨s,hs⟩:=UW _ _ _ hm
 unfold Instr.typeAssert
 simp[run_underlying hu,typeInfo,hi,hs,hz,Result.andThen]
theorem Tryz.noIsA (v:Value) (w:World):(Instr.typeAssert (.iface 212 v) 94 262 true).run Tryz.prog w=.ok (.tuple #[.nilIface,.bool false]) w :=
 Ux _ _ _ _ v w Tryz.undIs (Tryz.zeroIs w) (by kernel_rfl)
theorem Tryz.noIsF (v:Value) (w:World):(Instr.typeAssert (.iface 204 v) 94 262 true).run Tryz.prog w=.ok (.tuple #[.nilIface,.bool false]) w :=
 Ux _ _ _ _ v w Tryz.undIs (Tryz.zeroIs w) (by kernel_rfl)
theorem Tryz.noUnF (v:Value) (w:World):(Instr.typeAssert (.iface 204 v) 94 242 true).run Tryz.prog w=.ok (.tuple #[.nilIface,.bool false]) w :=
 Ux _ _ _ _ v w Tryz.undUn (Tryz.zeroUn w) (by kernel_rfl)
theorem Tryz.noUsF (v:Value) (w:World):(Instr.typeAssert (.iface 204 v) 94 243 true).run Tryz.prog w=.ok (.tuple #[.nilIface,.bool false]) w :=
 Ux _ _ _ _ v w Tryz.undUs (Tryz.zeroUs w) (by kernel_rfl)
theorem Tryz.neqAF (a b:Value) (w:World):(binOp .eql 94 (.iface 212 a) (.iface 204 b)).run Tryz.prog w=.ok (.bool false) w:=by
 have h:∀ d:Nat,(Op.equalIn (d+1) 94 (.iface 212 a) (.iface 204 b)).run Tryz.prog w=.ok false w:=fun d=>by simp[Op.equalIn,run_underlying Tryz.underlying94]
 simp only[binOp]
 simp[Op.equal,Op.maxDepth,h 9999]
theorem Tryz.compF:(Tryz.prog.info? 204).map (·.comparable)=some true:=by kernel_rfl
theorem Tryz.eqlFF (a b:Int) (w:World):(binOp .eql 94 (.iface 204 (.int .i64 a)) (.iface 204 (.int .i64 b))).run Tryz.prog w=.ok (.bool (a == b)) w:=by
 obtain ⟨i,hi,hc⟩:=Option.map_eq_some_iff.1 Tryz.compF
 have h:∀ d:Nat,(Op.equalIn (d+2) 94 (.iface 204 (.int .i64 a)) (.iface 204 (.int .i64 b))).run Tryz.prog w=.ok (a == b) w:=fun d=>by
  simp[Op.equalIn,run_underlying Tryz.underlying94,run_underlying Tryz.underlying204,typeInfo,hi,hc]
 simp only[binOp]
 simp[Op.equal,Op.maxDepth,h 9998]
theorem Z78 (what:ByteArray) (n m:Int) (w:World) :
  Calls Tryz.prog 165 #[Y6 what n,QC m,.bool true] w fun e w'=>e=.returned (.bool (n == m))∧Below w.heap.size w w':=by
 have mU:=Tryz.methodUnwrapO09
 have hU:=Tryz.hasUnO09
 have nA:=Tryz.noIsA
 have nF:=Tryz.noIsF
 have uF:=Tryz.noUnF
 have sF:=Tryz.noUsF
 have qA:=Tryz.neqAF
 have qF:=fun W=>Tryz.eqlFF n m W
 unfold Y6 QC
 by_cases hnm:n=m
 ·subst hnm
  have hb:(n == n)=true:=by simp
  rw[hb]
  simp only[hb] at qF
  clear hb
  go_enter Tryz.func165,Tryz.ntmps165
  go_wp2_with fail
  refine wp_loop_rounds 2 ?_
  rw[rounds_succ]
  go_wp2_with (first|(go_at_call 255;refine (VU what (.iface 204 (.int .i64 n)) _).mono ?_;rintro e w' ⟨rfl,rfl⟩))
  rw[rounds_succ]
  go_wp2_with fail
  go_ret
  exact ⟨rfl,(Below.refl _ _).alloc (Nat.le_refl _) _⟩
 ·have hb:(n == m)=false:=by simp[hnm]
  rw[hb]
  simp only[hb] at qF
  clear hb hnm
  go_enter Tryz.func165,Tryz.ntmps165
  go_wp2_with fail
  refine wp_loop_rounds 2 ?_
  rw[rounds_succ]
  go_wp2_with (first|(go_at_call 255;refine (VU what (.iface 204 (.int .i64 n)) _).mono ?_;rintro e w' ⟨rfl,rfl⟩))
  rw[rounds_succ]
  go_wp2_with fail
  go_ret
  exact ⟨rfl,(Below.refl _ _).alloc (Nat.le_refl _) _⟩
theorem Z72 (what:ByteArray) (n m:Int) (w:World) :
  Calls Tryz.prog 119 #[Y6 what n,QC m] w fun e w'=>e=.returned (.bool (n == m))∧Below w.heap.size w w':=by
 have h10:=@run_callFunc_extern Tryz.prog 150 _ ReflectliteType.typeOf Tryz.func150 (by kernel_rfl) (by kernel_rfl) (by kernel_rfl) (by kernel_rfl)
 have h32 := @run_callFunc_extern Tryz.prog 259 _ (ReflectliteType.method fun t => (do Rtype.noPackHeld "Comparable" t; pure (Value.bool (← typeInfo t).comparable))) Tryz.func259 (by kernel_rfl) (by kernel_rfl) (by kernel_rfl) (by kernel_rfl)
 have tF:=Tryz.typeOfFO09
 have cF:=Tryz.isComparableO
 have mC:=Tryz.methodComparable
 unfold Y6 QC
 go_enter Tryz.func119,Tryz.ntmps119
 go_wp2_with fail
 refine (Z78 what n m _).mono ?_
 rintro e w' ⟨rfl,hb⟩
 have HB:=Lib.hid hb
 clear hb
 go_wp2_with fail
 go_ret
 exact ⟨rfl,HB.out⟩
theorem Z6E (m:Int) (w:World) :
  Calls Tryz.prog 119 #[.nilIface,QC m] w fun e w'=>e=.returned (.bool false)∧w'=w:=by
 have hn:=run_eql_iface_nil_left (P:=Tryz.prog) w 204 (.int .i64 m) Tryz.underlying94
 unfold QC
 go_enter Tryz.func119,Tryz.ntmps119
 go_wp2
 go_ret
 exact ⟨rfl,rfl⟩
end Go.Proofs.YtgmdimbiipemhaaGreatDoor
namespace Go.Proofs.YtgmdimbiipemhaaGreatDoor
open Go.RowKit Go.Deep
def Ws (f:Nat→OpD→OpD) (i:Nat) (ls:List OpD):List OpD:=ls.mapIdx fun j o=>if j<i then f j o else o
theorem Xo (f:Nat→OpD→OpD) (i:Nat) (ls:List OpD):(Ws f i ls).length=ls.length:=by simp[Ws]
theorem Z0b (f:Nat→OpD→OpD) (ls:List OpD):Ws f 0 ls=ls:=by
 apply List.ext_getElem?
 intro j
 simp[Ws]
theorem Sz (f:Nat→OpD→OpD) (i:Nat) {ls:List OpD} {x:OpD} (h:ls[i]?=some x):(Ws f i ls)[i]?=some x:=by simp[Ws,h]
theorem Z0i (f g:Nat→OpD→OpD) (i:Nat) {ls:List OpD} {x:OpD} (h:ls[i]?=some x) (hfg:∀ j,j<i→f j=g j):Ws g (i+1) ls=(Ws f i ls).set i (g i x):=by
 apply List.ext_getElem?
 intro j
 have hi:=(List.getElem?_eq_some_iff.1 h).1
 by_cases e:j=i
 ·subst e
  rw[List.getElem?_set_self (by rw[Xo];exact hi)]
  simp[Ws,h]
 ·rw[List.getElem?_set_ne (Ne.symm e)]
  simp only[Ws,List.getElem?_mapIdx]
  congr 1
  funext o
  by_cases h1:j<i
  ·rw[if_pos h1,if_pos (by omega),hfg j h1]
  ·rw[if_neg h1,if_neg (by omega)]
theorem Z6V (L:List (List Int)) (i:Nat) (ls:List OpD):YV L i ls=Ws (fun j o=>o.withF (Uq L j)) i ls:=rfl
def OpD.setT (o:OpD) (c:Nat) (v:Bool):OpD:=if c=0 then { o with fa:=v } else { o with ta:=v }
def OpD.setX (o:OpD) (c:Nat) (s:ByteArray):OpD:=if c=0 then { o with key:=s } else if c=1 then { o with name:=s } else { o with value:=s }
def VV (c:Nat):Nat:=if c=0 then 22 else 25
def VH (c:Nat):Nat:=if c=0 then 17 else if c=1 then 18 else 19
theorem Z2Y (c:Nat):VV c<26:=by unfold VV;split <;> omega
theorem Z32 (c:Nat):VH c<26:=by unfold VH;split <;> (try split) <;> omega
theorem Z4f (o:OpD) (c:Nat) (v:Bool):(o.setT c v).cells=o.cells.set (VV c) (.bool v):=by
 unfold OpD.setT VV
 split <;> rfl
theorem Z4a (o:OpD) (c:Nat) (s:ByteArray):(o.setX c s).cells=o.cells.set (VH c) (.string s):=by
 unfold OpD.setX VH
 split
 ·rfl
 ·split <;> rfl
def Ye (c:Nat) (V:List Bool) (i:Nat) (ls:List OpD):List OpD:=Ws (fun j o=>o.setT c (V.getD j false)) i ls
noncomputable def tkT (n:Nat):Nat→List OpD × List UInt8→Option (List OpD × List UInt8)
 | 0,p=>some p
 | c+1,p=>(tkT n c p).bind fun q=>(X7 n false true q.2).map fun t=>(Ye c t.1 n q.1,q.2.drop t.2)
theorem Z67 {n c:Nat} {p q:List OpD × List UInt8} {V:List Bool} {u:Nat} (h:tkT n c p=some q) (k:X7 n false true q.2=some (V,u)):tkT n (c+1) p=some (Ye c V n q.1,q.2.drop u):=by
 simp[tkT,h,k]
theorem Z1H {n c:Nat} {p:List OpD × List UInt8} (h:tkT n c p=none):∀ d,tkT n (c+d) p=none
 | 0=>h
 | d+1=>by
  show (tkT n (c+d) p).bind _=none
  rw[Z1H h d]
  rfl
theorem Z6S {n c:Nat} {p q:List OpD × List UInt8} (h:tkT n c p=some q) (k:X7 n false true q.2=none) {d:Nat} (hd:c<d):tkT n d p=none:=by
 have h1:tkT n (c+1) p=none:=by simp[tkT,h,k]
 have:=Z1H h1 (d - (c+1))
 rwa [show c+1+(d - (c+1))=d by omega] at this
theorem Qz {n:Nat}:∀ {c:Nat} {p q:List OpD × List UInt8},tkT n c p=some q→q.1.length=p.1.length
 | 0,p,q,h=>by cases h;rfl
 | c+1,p,q,h=>by
  unfold tkT at h
  rw[Option.bind_eq_some_iff] at h
  obtain ⟨q0,h1,h2⟩:=h
  rw[Option.map_eq_some_iff] at h2
  obtain ⟨t,_,h4⟩:=h2
  rw[←h4]
  show (Ye c t.1 n q0.1).length=_
  unfold Ye
  rw[Xo]
  exact Qz h1
theorem Z3T {n:Nat} (hn:n≤65536) {b:List UInt8} {l:List Bool} {u:Nat} (h:X7 n false true b=some (l,u)):l.length=n∧u≤b.length:=by
 obtain ⟨h1,_,h2,h3⟩:=(Z2i n (by omega) false true b l u).1 h
 exact ⟨h1,by rw[h3];exact h2.length_le⟩
def Wn (v:List Int):Nat→List UInt8→Option (List ByteArray × List UInt8)
 | 0,b=>some ([],b)
 | i+1,b=>(Wn v i b).bind fun p=>if 0≤v.getD i 0∧v.getD i 0≤(p.2.length:Int) then some (p.1++[⟨(p.2.take (v.getD i 0).toNat).toArray⟩],p.2.drop (v.getD i 0).toNat) else none
theorem Z4R {v:List Int} {i:Nat} {b r:List UInt8} {X:List ByteArray} {m:Nat} (h:Wn v i b=some (X,r)) (hv:v[i]?=some (m:Int)) (hm:m≤r.length):Wn v (i+1) b=some (X++[⟨(r.take m).toArray⟩],r.drop m):=by
 have hg:v.getD i 0=(m:Int):=by rw[List.getD_eq_getElem?_getD,hv];rfl
 simp only[Wn,h,Option.bind_some,hg]
 rw[if_pos ⟨by omega,by omega⟩]
 rfl
theorem Z0o {v:List Int} {i:Nat} {b:List UInt8} (h:Wn v i b=none):∀ d,Wn v (i+d) b=none
 | 0=>h
 | d+1=>by
  show (Wn v (i+d) b).bind _=none
  rw[Z0o h d]
  rfl
theorem Z5r {v:List Int} {i:Nat} {b r:List UInt8} {X:List ByteArray} {m:Int} (h:Wn v i b=some (X,r)) (hv:v[i]?=some m) (hm:m<0∨(r.length:Int)<m) {d:Nat} (hd:i<d):Wn v d b=none:=by
 have hg:v.getD i 0=m:=by rw[List.getD_eq_getElem?_getD,hv];rfl
 have h1:Wn v (i+1) b=none:=by
  simp only[Wn,h,Option.bind_some,hg]
  rw[if_neg (by omega)]
 have:=Z0o h1 (d - (i+1))
 rwa [show i+1+(d - (i+1))=d by omega] at this
theorem Z23 {v:List Int}:∀ {i:Nat} {b r:List UInt8} {X:List ByteArray},Wn v i b=some (X,r)→X.length=i∧r.length≤b.length
 | 0,b,r,X,h=>by cases h;exact ⟨rfl,Nat.le_refl _⟩
 | i+1,b,r,X,h=>by
  unfold Wn at h
  rw[Option.bind_eq_some_iff] at h
  obtain ⟨⟨X0,r0⟩,h1,h2⟩:=h
  split at h2
  ·cases h2
   have h3:=Z23 h1
   refine ⟨by rw[List.length_append,h3.1];rfl,?_⟩
   have h4:=h3.2
   simp only[List.length_drop]
   omega
  ·cases h2
def YP (c:Nat) (X:List ByteArray) (i:Nat) (ls:List OpD):List OpD:=Ws (fun j o=>o.setX c (X.getD j ZE)) i ls
noncomputable def XY (n c:Nat) (p:List OpD × List UInt8):Option (List OpD × List UInt8):=(Xg n none p.2).bind fun t=>(Wn t.1 n (p.2.drop t.2)).map fun x=>(YP c x.1 n p.1,x.2)
theorem TKS.setOp {w0:World} {T g lc i j:Nat} {W:World} {tb:Value} {r:List UInt8} {ls:List OpD} {x y:OpD} {u:Value} (h:TKS w0 T W tb r (.slice (some ⟨g,0,none⟩) ls.length lc) ls) (hx:ls[i]?=some x) (hj:j<26) (hy:y.cells=x.cells.set j u):TKS w0 T (W.setCell ⟨g,i*26+j,none⟩ u) tb r (.slice (some ⟨g,0,none⟩) ls.length lc) (ls.set i y):=by
 have hTg:T≠g:=fun e=>by
  have h1:=h.cell
  obtain ⟨c2,h2⟩:=h.own.tag (b:=g) rfl
  rw[e,h2] at h1
  cases h1
 have hgn:=(h.own.blk g rfl).1
 have hx1:Ext (·=g) W (W.setCell ⟨g,i*26+j,none⟩ u):=(Ext.refl (·=g) W).setCell (p:=⟨g,i*26+j,none⟩) (.inr rfl) _
 exact ⟨(hx1.block T (Array.getElem?_eq_some_iff.1 h.cell).1 hTg).trans h.cell,h.byt,h.own.setAt OpD.len hx hj hy,Ext.new h.bel hx1 (fun k hk _ e=>by omega) h.bel.size,h.new,h.fltKeep hx1 (fun e=>by
  obtain ⟨c2,h2⟩:=h.own.tag (b:=g) rfl
  have h1:=h.flt
  rw[e,h2] at h1
  cases h1)⟩
theorem TKS.setB {w0:World} {T:Nat} {W:World} {tb tb' tl:Value} {r r':List UInt8} {ls:List OpD} (h:TKS w0 T W tb r tl ls) (hb:Z0 u8c 1 w0 tb' r'):TKS w0 T (W.setCell ⟨T,0,none⟩ tb') tb' r' tl ls:=by
 have hx1:Ext (·=T) W (W.setCell ⟨T,0,none⟩ tb'):=(Ext.refl (·=T) W).setCell (p:=⟨T,0,none⟩) (.inr rfl) _
 refine ⟨?_,hb,h.own.ext hx1 (fun b hb e=>?_),Ext.new h.bel hx1 (fun k hk _ e=>by have:=h.new;omega) h.bel.size,h.new,h.fltKeep hx1 (fun e=>by omega)⟩
 ·rw[heap_setCell_same _ T 0 _ _ _ h.cell]
  rfl
 ·have hc:=h.cell
  obtain ⟨c1,g1⟩:=h.own.tag hb
  rw[e,hc] at g1
  cases g1
def inI (x:Int):Prop:=-9223372036854775808≤x∧x≤9223372036854775807
theorem Z2Z {x:Int}:YG x<18446744073709551616↔inI x:=by
 unfold inI YG
 split <;> omega
theorem Z1h:∀ (l:List Int) (p:Int),∀ x∈Wf p l,inI x
 | [],p,x,h=>by simp[Wf] at h
 | y :: l,p,x,h=>by
  rw[Wf] at h
  rcases List.mem_cons.1 h with rfl|h
  ·exact Z1R _
  ·exact Z1h l _ x h
theorem Z5J {l:List Int} (h:∀ x∈l,inI x):∀ x∈YM l,inI x:=by
 intro x hx
 cases l with
 | nil=>simp[YM] at hx
 | cons y l =>
  rw[YM] at hx
  rcases List.mem_cons.1 hx with rfl|hx
  ·exact h _ (by simp)
  ·exact Z1h l _ x hx
def UM (d:Bool) (l:List Int):List UInt8:=if d then Zc (ZV l) else Zc l
theorem Z4Q:Zc []=[]:=by rw[Zc]
theorem U9 {n:Nat} (hn:n≤65536) {b:List UInt8} {l:List Int} {u:Nat}:Xg n none b=some (l,u)↔l.length=n∧(∀ x∈l,inI x)∧Zc l <+: b∧u=(Zc l).length:=by
 rw[Rm n (by omega) none b l u]
 constructor
 ·rintro (⟨h1,_,h2,h3,h4⟩|⟨h1,rfl,rfl⟩)
  ·exact ⟨h1,fun x hx=>Z2Z.1 (h2 x hx),h3,h4⟩
  ·rw[Z4Q]
   exact ⟨h1.symm,fun x hx=>by simp at hx,List.nil_prefix,rfl⟩
 ·rintro ⟨h1,h2,h3,h4⟩
  exact .inl ⟨h1,fun h=>absurd rfl h,fun x hx=>Z2Z.2 (h2 x hx),h3,h4⟩
theorem Z1i {n:Nat} (hn:n≤65536) {d:Bool} {b:List UInt8} {l:List Int} {u:Nat}:VW n d b=some (l,u)↔l.length=n∧(∀ x∈l,inI x)∧UM d l <+: b∧u=(UM d l).length:=by
 unfold VW UM
 cases d with
 | false=>exact U9 hn
 | true =>
  simp only[if_true]
  unfold UT
  rw[Option.map_eq_some_iff]
  constructor
  ·rintro ⟨⟨l0,u0⟩,h1,h2⟩
   cases h2
   obtain ⟨h3,h4,h5,h6⟩:=(U9 hn).1 h1
   dsimp only
   rw[Z40 h4,Sa]
   exact ⟨h3,Z5J h4,h5,h6⟩
  ·rintro ⟨h1,h2,h3,h4⟩
   refine ⟨(ZV l,u),(U9 hn).2 ⟨by rw[XD];exact h1,Uy h2,h3,h4⟩,?_⟩
   dsimp only
   rw[Z3I h2]
def Td (L:List (List Int)):List UInt8:=(List.range L.length).flatMap fun c=>UM (dlt c) (L.getD c [])
theorem Z4C {α:Type} (L:List α) (x d:α) {c:Nat} (hc:c<L.length):(L++[x]).getD c d=L.getD c d:=by
 rw[List.getD_eq_getElem?_getD,List.getD_eq_getElem?_getD,List.getElem?_append_left hc]
theorem Z59 {α:Type} (L:List α) (x d:α):(L++[x]).getD L.length d=x:=by
 rw[List.getD_eq_getElem?_getD,List.getElem?_append_right (Nat.le_refl _),Nat.sub_self]
 rfl
theorem Vx {α β:Type} {f g:α→List β}:∀ {l:List α},(∀ x∈l,f x=g x)→l.flatMap f=l.flatMap g
 | [],_=>rfl
 | x :: l,h=>by rw[List.flatMap_cons,List.flatMap_cons,h x (by simp),Vx (fun y hy=>h y (by simp[hy]))]
theorem R7 (L:List (List Int)) (l:List Int):Td (L++[l])=Td L++UM (dlt L.length) l:=by
 unfold Td
 rw[List.length_append,List.length_singleton,List.range_succ,List.flatMap_append,List.flatMap_cons,List.flatMap_nil,List.append_nil,Z59]
 congr 1
 exact Vx fun c hc=>by rw[Z4C _ _ _ (List.mem_range.1 hc)]
theorem WL {a b:List UInt8} (h:a <+: b):b=a++b.drop a.length:=by
 obtain ⟨t,rfl⟩:=h
 rw[List.drop_left]
theorem Vn {n:Nat} (hn:n≤65536):∀ {c:Nat} {b r:List UInt8} {L:List (List Int)},ZP n c b=some (L,r)↔L.length=c∧(∀ l∈L,l.length=n∧∀ x∈l,inI x)∧b=Td L++r
 | 0,b,r,L=>by
  constructor
  ·intro h
   cases h
   exact ⟨rfl,fun l hl=>by simp at hl,rfl⟩
  ·rintro ⟨h1,_,h2⟩
   rw[List.length_eq_zero_iff.1 h1] at h2 ⊢
   subst h2
   rfl
 | c+1,b,r,L=>by
  unfold ZP
  rw[Option.bind_eq_some_iff]
  constructor
  ·rintro ⟨⟨L0,r0⟩,h1,h2⟩
   rw[Option.map_eq_some_iff] at h2
   obtain ⟨⟨l,u⟩,h3,h4⟩:=h2
   cases h4
   obtain ⟨a1,a2,a3⟩:=(Vn hn).1 h1
   obtain ⟨b1,b2,b3,b4⟩:=(Z1i hn).1 h3
   subst a1
   refine ⟨by rw[List.length_append];rfl,fun x hx=>?_,?_⟩
   ·rcases List.mem_append.1 hx with hx|hx
    ·exact a2 x hx
    ·rw[List.mem_singleton.1 hx];exact ⟨b1,b2⟩
   ·rw[R7,List.append_assoc,a3]
    congr 1
    dsimp only at b3 b4 ⊢
    rw[b4]
    exact WL b3
  ·rintro ⟨h1,h2,h3⟩
   obtain ⟨L0,l,rfl⟩:∃ L0 l,L=L0++[l]:=by
    rcases List.eq_nil_or_concat L with rfl|⟨L0,l,h⟩
    ·simp at h1
    ·exact ⟨L0,l,by rw[h,List.concat_eq_append]⟩
   rw[List.length_append,List.length_singleton] at h1
   have h1:L0.length=c:=by omega
   subst h1
   rw[R7,List.append_assoc] at h3
   refine ⟨(L0,UM (dlt L0.length) l++r),(Vn hn).2 ⟨rfl,fun x hx=>h2 x (List.mem_append_left _ hx),h3⟩,?_⟩
   have h4:=h2 l (by simp)
   rw[Option.map_eq_some_iff]
   refine ⟨(l,(UM (dlt L0.length) l).length),(Z1i hn).2 ⟨h4.1,h4.2,List.prefix_append _ _,rfl⟩,?_⟩
   dsimp only
   rw[List.drop_left]
theorem TM {n:Nat} (hn:n≤65536) {b:List UInt8} {l:List Bool} {u:Nat}:X7 n false true b=some (l,u)↔l.length=n∧ZN false l <+: b∧u=(ZN false l).length:=by
 rw[Z2i n (by omega) false true b l u]
 constructor
 ·rintro ⟨h1,_,h2,h3⟩;exact ⟨h1,h2,h3⟩
 ·rintro ⟨h1,h2,h3⟩;exact ⟨h1,fun h=>absurd h (by decide),h2,h3⟩
theorem Z15 {n:Nat} (hn:n≤65536) {p q:List OpD × List UInt8}:tkT n 2 p=some q↔∃ V0 V1,V0.length=n∧V1.length=n∧q.1=Ye 1 V1 n (Ye 0 V0 n p.1)∧p.2=ZN false V0++(ZN false V1++q.2):=by
 have e:tkT n 2 p=(X7 n false true p.2).bind fun t=>(X7 n false true (p.2.drop t.2)).map fun s=>(Ye 1 s.1 n (Ye 0 t.1 n p.1),(p.2.drop t.2).drop s.2):=by
  unfold tkT tkT tkT
  rw[Option.bind_some]
  cases X7 n false true p.2 with
  | none=>rfl
  | some t=>rfl
 rw[e,Option.bind_eq_some_iff]
 constructor
 ·rintro ⟨⟨V0,u⟩,h1,h2⟩
  rw[Option.map_eq_some_iff] at h2
  obtain ⟨⟨V1,s⟩,h3,h4⟩:=h2
  subst h4
  obtain ⟨a1,a2,a3⟩:=(TM hn).1 h1
  obtain ⟨b1,b2,b3⟩:=(TM hn).1 h3
  refine ⟨V0,V1,a1,b1,rfl,?_⟩
  dsimp only at a3 b2 b3 ⊢
  rw[b3,←WL b2,a3]
  exact WL a2
 ·rintro ⟨V0,V1,h1,h2,h3,h4⟩
  refine ⟨(V0,(ZN false V0).length),(TM hn).2 ⟨h1,by rw[h4];exact List.prefix_append _ _,rfl⟩,?_⟩
  rw[Option.map_eq_some_iff]
  refine ⟨(V1,(ZN false V1).length),(TM hn).2 ⟨h2,?_,rfl⟩,?_⟩
  ·dsimp only
   rw[h4,List.drop_left]
   exact List.prefix_append _ _
  ·dsimp only
   rw[h4,List.drop_left,List.drop_left,←h3]
def WI (X:List ByteArray):List Int:=X.map fun s=>(s.size:Int)
def Sk (X:List ByteArray):List UInt8:=X.flatMap fun s=>s.data.toList
theorem UC {v:List Int}:∀ {i:Nat} {b r:List UInt8} {X:List ByteArray},i≤v.length→(Wn v i b=some (X,r)↔v.take i=WI X∧b=Sk X++r)
 | 0,b,r,X,_=>by
  constructor
  ·intro h
   cases h
   exact ⟨rfl,rfl⟩
  ·rintro ⟨h1,h2⟩
   have:X=[]:=by
    cases X with
    | nil=>rfl
    | cons x X=>simp[WI] at h1
   subst this
   subst h2
   rfl
 | i+1,b,r,X,hi=>by
  unfold Wn
  rw[Option.bind_eq_some_iff]
  have hvi:v[i]?=some (v.getD i 0):=by rw[List.getD_eq_getElem?_getD,List.getElem?_eq_getElem (by omega)];rfl
  have htk:v.take (i+1)=v.take i++[v.getD i 0]:=by rw[List.take_add_one,hvi];rfl
  rw[htk]
  constructor
  ·rintro ⟨⟨X0,r0⟩,h1,h2⟩
   split at h2
   ·rename_i hc
    cases h2
    obtain ⟨a1,a2⟩:=(UC (by omega)).1 h1
    dsimp only at hc
    refine ⟨?_,?_⟩
    ·rw[a1,WI,WI,List.map_append]
     congr 1
     rw[List.map_cons,List.map_nil]
     congr 1
     show _=(((r0.take (v.getD i 0).toNat).toArray.size:Nat):Int)
     rw[List.size_toArray,List.length_take]
     omega
    ·rw[a2,Sk,Sk,List.flatMap_append,List.append_assoc]
     congr 1
     simp
   ·cases h2
  ·rintro ⟨h1,h2⟩
   obtain ⟨X0,x,rfl⟩:∃ X0 x,X=X0++[x]:=by
    rcases List.eq_nil_or_concat X with rfl|⟨X0,x,h⟩
    ·simp[WI] at h1
    ·exact ⟨X0,x,by rw[h,List.concat_eq_append]⟩
   rw[WI,List.map_append,List.map_cons,List.map_nil] at h1
   have h3:=List.append_inj' h1 rfl
   rw[Sk,List.flatMap_append,List.append_assoc] at h2
   have hv:v.getD i 0=(x.size:Int):=by
    have:=h3.2
    simpa using this
   refine ⟨(X0,x.data.toList++r),(UC (by omega)).2 ⟨h3.1,by rw[h2];simp[Sk]⟩,?_⟩
   have hs:x.data.toList.length=x.size:=by rw[Array.length_toList];rfl
   rw[hv]
   dsimp only
   rw[if_pos ⟨by omega,by rw[List.length_append];omega⟩,Int.toNat_natCast,←hs,List.take_left,List.drop_left]
theorem V9 {n c:Nat} (hn:n≤65536) {p q:List OpD × List UInt8}:XY n c p=some q↔∃ X,X.length=n∧(∀ x∈WI X,inI x)∧q.1=YP c X n p.1∧p.2=Zc (WI X)++(Sk X++q.2):=by
 unfold XY
 rw[Option.bind_eq_some_iff]
 constructor
 ·rintro ⟨⟨v,u⟩,h1,h2⟩
  rw[Option.map_eq_some_iff] at h2
  obtain ⟨⟨X,r⟩,h3,h4⟩:=h2
  subst h4
  obtain ⟨a1,a2,a3,a4⟩:=(U9 hn).1 h1
  obtain ⟨b1,b2⟩:=(UC (by dsimp only;omega)).1 h3
  dsimp only at b1 b2 a4 ⊢
  rw[←a1,List.take_length] at b1
  subst b1
  refine ⟨X,by rw[←a1,WI,List.length_map],a2,rfl,?_⟩
  rw[←b2,a4]
  exact WL a3
 ·rintro ⟨X,h1,h2,h3,h4⟩
  have h5:(WI X).length=n:=by rw[WI,List.length_map];exact h1
  refine ⟨(WI X,(Zc (WI X)).length),(U9 hn).2 ⟨h5,h2,by rw[h4];exact List.prefix_append _ _,rfl⟩,?_⟩
  rw[Option.map_eq_some_iff]
  refine ⟨(X,q.2),(UC (by dsimp only;omega)).2 ⟨by dsimp only;rw[←h5,List.take_length],?_⟩,by rw[←h3]⟩
  dsimp only
  rw[h4,List.drop_left]
def zOp:OpD:=⟨⟨0,0⟩,0,0,0,0,0,0,0,0,0,⟨0,0⟩,0,0,⟨0,0⟩,ZE,ZE,ZE,⟨0,0⟩,false,⟨0,0⟩,false⟩
def VK (L:List (List Int)) (V0 V1:List Bool) (X0 X1 X2:List ByteArray) (j:Nat):OpD:=(((((zOp.withF (Uq L j)).setT 0 (V0.getD j false)).setT 1 (V1.getD j false)).setX 0 (X0.getD j ZE)).setX 1 (X1.getD j ZE)).setX 2 (X2.getD j ZE)
theorem VB (f:Nat→OpD→OpD) {n j:Nat} (hj:j<n) (ls:List OpD):(Ws f n ls)[j]?=ls[j]?.map (f j):=by
 simp[Ws,hj]
theorem Z06 (n:Nat) (L:List (List Int)) (V0 V1:List Bool) (X0 X1 X2:List ByteArray):YP 2 X2 n (YP 1 X1 n (YP 0 X0 n (Ye 1 V1 n (Ye 0 V0 n (YV L n (List.replicate n zOp))))))=(List.range n).map (VK L V0 V1 X0 X1 X2):=by
 apply List.ext_getElem?
 intro j
 by_cases hj:j<n
 ·unfold YP Ye
  rw[Z6V,VB _ hj,VB _ hj,VB _ hj,VB _ hj,VB _ hj,VB _ hj,List.getElem?_replicate_of_lt hj,List.getElem?_map,List.getElem?_range hj]
  rfl
 ·rw[List.getElem?_eq_none,List.getElem?_eq_none]
  ·simp;omega
  ·unfold YP Ye
   rw[Xo,Xo,Xo,Xo,Xo,Uf,List.length_replicate]
   omega
theorem Rv (o:OpD) (c k:Nat) (s:ByteArray):fld (o.setX c s) k=fld o k:=by
 unfold OpD.setX
 split
 ·unfold fld;split <;> rfl
 ·split <;> (unfold fld;split <;> rfl)
theorem Z1N (o:OpD) (c k:Nat) (v:Bool):fld (o.setT c v) k=fld o k:=by
 unfold OpD.setT
 split <;> (unfold fld;split <;> rfl)
theorem Z1V (L:List (List Int)) (V0 V1:List Bool) (X0 X1 X2:List ByteArray) (j:Nat) {c:Nat} (hc:c<21):fld (VK L V0 V1 X0 X1 X2 j) c=Uq L j c:=by
 unfold VK
 rw[Rv,Rv,Rv,Z1N,Z1N,Z4L _ _ hc]
theorem VF {α:Type} {l:List α} {n:Nat} (d:α) (h:l.length=n):((List.range n).map fun j=>l.getD j d)=l:=by
 apply List.ext_getElem?
 intro j
 by_cases hj:j<n
 ·rw[List.getElem?_map,List.getElem?_range hj,Option.map_some,List.getD_eq_getElem?_getD,List.getElem?_eq_getElem (by omega)]
  rfl
 ·rw[List.getElem?_eq_none (by simp;omega),List.getElem?_eq_none (by omega)]
theorem Z5b {n:Nat} {L:List (List Int)} (V0 V1:List Bool) (X0 X1 X2:List ByteArray) {c:Nat} (hc:c<21) (hl:(L.getD c []).length=n):Ys ((List.range n).map (VK L V0 V1 X0 X1 X2)) c=L.getD c []:=by
 unfold Ys
 rw[List.map_map]
 refine Eq.trans (List.map_congr_left fun j _=>?_) (VF 0 hl)
 show fld (VK L V0 V1 X0 X1 X2 j) c=_
 rw[Z1V _ _ _ _ _ _ _ hc]
 rfl
theorem Z5k {n:Nat} (L:List (List Int)) {V0 V1:List Bool} (X0 X1 X2:List ByteArray) (h0:V0.length=n) (h1:V1.length=n):ZC ((List.range n).map (VK L V0 V1 X0 X1 X2)) 0=V0∧ZC ((List.range n).map (VK L V0 V1 X0 X1 X2)) 1=V1:=by
 unfold ZC
 rw[List.map_map,List.map_map]
 exact ⟨VF false h0,VF false h1⟩
theorem Z5w {n:Nat} (L:List (List Int)) (V0 V1:List Bool) {X0 X1 X2:List ByteArray} (h0:X0.length=n) (h1:X1.length=n) (h2:X2.length=n) :
  ((List.range n).map (VK L V0 V1 X0 X1 X2)).map (fun o=>txt o 0)=X0∧((List.range n).map (VK L V0 V1 X0 X1 X2)).map (fun o=>txt o 1)=X1∧((List.range n).map (VK L V0 V1 X0 X1 X2)).map (fun o=>txt o 2)=X2:=by
 rw[List.map_map,List.map_map,List.map_map]
 exact ⟨VF ZE h0,VF ZE h1,VF ZE h2⟩
theorem Ul (l:List OpD) (c:Nat):Zv l c=WI (l.map fun o=>txt o c):=by unfold Zv WI;rw[List.map_map];rfl
theorem Tf (l:List OpD) (c:Nat):ZB l c=Sk (l.map fun o=>txt o c):=by unfold ZB Sk;rw[List.flatMap_map]
theorem Qp {l:List OpD} {L:List (List Int)} (hL:L.length=21) (h:∀ c,c<21→Ys l c=L.getD c []):Yc l 21=Td L:=by
 unfold Yc Td
 rw[hL]
 exact Vx fun c hc=>by unfold Vo UM;rw[h c (List.mem_range.1 hc)]
theorem SK (l:List OpD):XM l=Z6 l.length++(Yc l 21++(ZN false (ZC l 0)++(ZN false (ZC l 1)++(Zc (Zv l 0)++(ZB l 0++(Zc (Zv l 1)++(ZB l 1++(Zc (Zv l 2)++ZB l 2)))))))):=by
 unfold XM
 have h1:YI l 2=ZN false (ZC l 0)++ZN false (ZC l 1):=by
  rw[Vj,Vj];rfl
 have h2:Xs l 3=Zc (Zv l 0)++(ZB l 0++(Zc (Zv l 1)++(ZB l 1++(Zc (Zv l 2)++ZB l 2)))):=by
  rw[We,We,We]
  simp[Xs]
 rw[h1,h2]
 simp only[List.append_assoc]
noncomputable def Xm (b:List UInt8):Option (List OpD × List UInt8) :=
 (ZG b).bind fun n=>if 200<n then none else (ZP n 21 (b.drop (Z6 n).length)).bind fun p=>(tkT n 2 (YV p.1 n (List.replicate n zOp),p.2)).bind fun q=>(XY n 0 q).bind fun q=>(XY n 1 q).bind fun q=>XY n 2 q
theorem S9 {b r:List UInt8} {l:List OpD} (h:Xm b=some (l,r)):l.length≤200∧b=XM l++r∧∀ x∈l,x.wf:=by
 unfold Xm at h
 rw[Option.bind_eq_some_iff] at h
 obtain ⟨n,h0,h⟩:=h
 split at h
 ·cases h
 rename_i hn
 rw[Option.bind_eq_some_iff] at h
 obtain ⟨⟨L,r1⟩,h1,h⟩:=h
 rw[Option.bind_eq_some_iff] at h
 obtain ⟨⟨l2,r2⟩,h2,h⟩:=h
 rw[Option.bind_eq_some_iff] at h
 obtain ⟨⟨l3,r3⟩,h3,h⟩:=h
 rw[Option.bind_eq_some_iff] at h
 obtain ⟨⟨l4,r4⟩,h4,h5⟩:=h
 have hn6:n≤65536:=by omega
 obtain ⟨a1,a2,a3⟩:=(Vn hn6).1 h1
 obtain ⟨V0,V1,v0,v1,v2,v3⟩:=(Z15 hn6).1 h2
 obtain ⟨X0,x0,x1,x2,x3⟩:=(V9 hn6).1 h3
 obtain ⟨X1,y0,y1,y2,y3⟩:=(V9 hn6).1 h4
 obtain ⟨X2,z0,z1,z2,z3⟩:=(V9 hn6).1 h5
 dsimp only at v2 v3 x2 x3 y2 y3 z2 z3
 rw[v2] at x2
 rw[x2] at y2
 rw[y2] at z2
 rw[Z06] at z2
 have hln:l.length=n:=by rw[z2];simp
 have hnum:∀ c,c<21→Ys l c=L.getD c []:=fun c hc=>by
  rw[z2]
  refine Z5b _ _ _ _ _ hc ?_
  obtain ⟨y,hy⟩:∃ y,L[c]?=some y:=⟨_,List.getElem?_eq_getElem (by omega)⟩
  rw[List.getD_eq_getElem?_getD,hy]
  exact (a2 y (List.mem_of_getElem? hy)).1
 obtain ⟨t0,t1⟩:=Z5k L X0 X1 X2 v0 v1
 obtain ⟨s0,s1,s2⟩:=Z5w L V0 V1 x0 y0 z0
 rw[←z2] at t0 t1 s0 s1 s2
 refine ⟨by omega,?_,fun x hx=>⟨?_,fun c hc=>?_⟩⟩
 ·rw[SK,hln,Qp a1 hnum,t0,t1,Ul,Ul,Ul,Tf,Tf,Tf,s0,s1,s2]
  rw[WL (ZQ.1 h0).2,a3,v3,x3,y3,z3]
  simp only[List.append_assoc]
 ·have k0:=x1 (x.key.size:Int) (by rw[←s0];exact List.mem_map.2 ⟨_,List.mem_map.2 ⟨x,hx,rfl⟩,rfl⟩)
  have k1:=y1 (x.name.size:Int) (by rw[←s1];exact List.mem_map.2 ⟨_,List.mem_map.2 ⟨x,hx,rfl⟩,rfl⟩)
  have k2:=z1 (x.value.size:Int) (by rw[←s2];exact List.mem_map.2 ⟨_,List.mem_map.2 ⟨x,hx,rfl⟩,rfl⟩)
  unfold inI at k0 k1 k2
  omega
 ·have h6:=hnum c hc
  have h7:fld x c∈L.getD c []:=by rw[←h6];exact List.mem_map.2 ⟨x,hx,rfl⟩
  obtain ⟨y,hy⟩:∃ y,L[c]?=some y:=⟨_,List.getElem?_eq_getElem (by omega)⟩
  rw[List.getD_eq_getElem?_getD,hy] at h7
  exact (a2 y (List.mem_of_getElem? hy)).2 _ h7
theorem Z6W {o p:OpD} (h:∀ c,c<21→fld o c=fld p c) (h1:tru o 0=tru p 0) (h2:tru o 1=tru p 1) (h3:txt o 0=txt p 0) (h4:txt o 1=txt p 1) (h5:txt o 2=txt p 2):o=p:=by
 have e0:=h 0 (by omega)
 have e1:=h 1 (by omega)
 have e2:=h 2 (by omega)
 have e3:=h 3 (by omega)
 have e4:=h 4 (by omega)
 have e5:=h 5 (by omega)
 have e6:=h 6 (by omega)
 have e7:=h 7 (by omega)
 have e8:=h 8 (by omega)
 have e9:=h 9 (by omega)
 have e10:=h 10 (by omega)
 have e11:=h 11 (by omega)
 have e12:=h 12 (by omega)
 have e13:=h 13 (by omega)
 have e14:=h 14 (by omega)
 have e15:=h 15 (by omega)
 have e16:=h 16 (by omega)
 have e17:=h 17 (by omega)
 have e18:=h 18 (by omega)
 have e19:=h 19 (by omega)
 have e20:=h 20 (by omega)
 obtain ⟨⟨a0,a1⟩,a2,a3,a4,a5,a6,a7,a8,a9,a10,⟨a11,a12⟩,a13,a14,⟨a15,a16⟩,s0,s1,s2,⟨a17,a18⟩,t0,⟨a19,a20⟩,t1⟩:=o
 obtain ⟨⟨b0,b1⟩,b2,b3,b4,b5,b6,b7,b8,b9,b10,⟨b11,b12⟩,b13,b14,⟨b15,b16⟩,u0,u1,u2,⟨b17,b18⟩,v0,⟨b19,b20⟩,v1⟩:=p
 simp only[fld,tru,txt] at *
 subst e0 e1 e2 e3 e4 e5 e6 e7 e8 e9 e10 e11 e12 e13 e14 e15 e16 e17 e18 e19 e20 h1 h2 h3 h4 h5
 rfl
theorem VA {α β:Type} (f:α→β) {l:List α} {j:Nat} {x:α} (d:β) (h:l[j]?=some x):(l.map f).getD j d=f x:=by
 rw[List.getD_eq_getElem?_getD,List.getElem?_map,h]
 rfl
theorem Z1O {b r:List UInt8} {l:List OpD} (hn:l.length≤200) (hb:b=XM l++r) (hw:∀ x∈l,x.wf):Xm b=some (l,r):=by
 have hn6:l.length≤65536:=by omega
 have h0:ZG b=some l.length:=ZQ.2 ⟨by omega,by rw[hb,SK,List.append_assoc];exact List.prefix_append _ _⟩
 have hd:b.drop (Z6 l.length).length=Yc l 21++(ZN false (ZC l 0)++(ZN false (ZC l 1)++(Zc (Zv l 0)++(ZB l 0++(Zc (Zv l 1)++(ZB l 1++(Zc (Zv l 2)++(ZB l 2++r)))))))):=by
  rw[hb,SK,List.append_assoc,List.drop_left]
  simp only[List.append_assoc]
 obtain ⟨L,hL⟩:∃ L,L=(List.range 21).map (Ys l):=⟨_,rfl⟩
 have hLl:L.length=21:=by rw[hL];simp
 have hLc:∀ c,c<21→Ys l c=L.getD c []:=fun c hc=>by
  rw[hL,List.getD_eq_getElem?_getD,List.getElem?_map,List.getElem?_range hc]
  rfl
 have h1:ZP l.length 21 (b.drop (Z6 l.length).length)=some (L,ZN false (ZC l 0)++(ZN false (ZC l 1)++(Zc (Zv l 0)++(ZB l 0++(Zc (Zv l 1)++(ZB l 1++(Zc (Zv l 2)++(ZB l 2++r)))))))):=by
  refine (Vn hn6).2 ⟨hLl,fun y hy=>?_,by rw[hd,Qp hLl hLc]⟩
  rw[hL] at hy
  obtain ⟨c,hc,rfl⟩:=List.mem_map.1 hy
  refine ⟨by unfold Ys;rw[List.length_map],fun x hx=>?_⟩
  obtain ⟨o,ho,rfl⟩:=List.mem_map.1 hx
  exact (hw o ho).2 c (List.mem_range.1 hc)
 have h2:tkT l.length 2 (YV L l.length (List.replicate l.length zOp),ZN false (ZC l 0)++(ZN false (ZC l 1)++(Zc (Zv l 0)++(ZB l 0++(Zc (Zv l 1)++(ZB l 1++(Zc (Zv l 2)++(ZB l 2++r))))))))=some (Ye 1 (ZC l 1) l.length (Ye 0 (ZC l 0) l.length (YV L l.length (List.replicate l.length zOp))),Zc (Zv l 0)++(ZB l 0++(Zc (Zv l 1)++(ZB l 1++(Zc (Zv l 2)++(ZB l 2++r)))))) :=
  (Z15 hn6).2 ⟨ZC l 0,ZC l 1,by unfold ZC;rw[List.length_map],by unfold ZC;rw[List.length_map],rfl,rfl⟩
 have hsz:∀ c,∀ x∈WI (l.map fun o=>txt o c),inI x:=fun c x hx=>by
  rw[←Ul] at hx
  obtain ⟨o,ho,rfl⟩:=List.mem_map.1 hx
  have:=(hw o ho).1
  unfold inI txt
  split <;> omega
 have hl3:∀ c,(l.map fun o=>txt o c).length=l.length:=fun c=>List.length_map _
 have h3:=(V9 (n:=l.length) (c:=0) (p:=(Ye 1 (ZC l 1) l.length (Ye 0 (ZC l 0) l.length (YV L l.length (List.replicate l.length zOp))),Zc (Zv l 0)++(ZB l 0++(Zc (Zv l 1)++(ZB l 1++(Zc (Zv l 2)++(ZB l 2++r))))))) (q:=(YP 0 (l.map fun o=>txt o 0) l.length (Ye 1 (ZC l 1) l.length (Ye 0 (ZC l 0) l.length (YV L l.length (List.replicate l.length zOp)))),Zc (Zv l 1)++(ZB l 1++(Zc (Zv l 2)++(ZB l 2++r))))) hn6).2 ⟨l.map fun o=>txt o 0,hl3 0,hsz 0,rfl,by rw[←Ul,←Tf]⟩
 have h4:=(V9 (n:=l.length) (c:=1) (p:=(YP 0 (l.map fun o=>txt o 0) l.length (Ye 1 (ZC l 1) l.length (Ye 0 (ZC l 0) l.length (YV L l.length (List.replicate l.length zOp)))),Zc (Zv l 1)++(ZB l 1++(Zc (Zv l 2)++(ZB l 2++r))))) (q:=(YP 1 (l.map fun o=>txt o 1) l.length (YP 0 (l.map fun o=>txt o 0) l.length (Ye 1 (ZC l 1) l.length (Ye 0 (ZC l 0) l.length (YV L l.length (List.replicate l.length zOp))))),Zc (Zv l 2)++(ZB l 2++r))) hn6).2 ⟨l.map fun o=>txt o 1,hl3 1,hsz 1,rfl,by rw[←Ul,←Tf]⟩
 have h5:=(V9 (n:=l.length) (c:=2) (p:=(YP 1 (l.map fun o=>txt o 1) l.length (YP 0 (l.map fun o=>txt o 0) l.length (Ye 1 (ZC l 1) l.length (Ye 0 (ZC l 0) l.length (YV L l.length (List.replicate l.length zOp))))),Zc (Zv l 2)++(ZB l 2++r))) (q:=(YP 2 (l.map fun o=>txt o 2) l.length (YP 1 (l.map fun o=>txt o 1) l.length (YP 0 (l.map fun o=>txt o 0) l.length (Ye 1 (ZC l 1) l.length (Ye 0 (ZC l 0) l.length (YV L l.length (List.replicate l.length zOp)))))),r)) hn6).2 ⟨l.map fun o=>txt o 2,hl3 2,hsz 2,rfl,by rw[←Ul,←Tf]⟩
 unfold Xm
 rw[h0,Option.bind_some,if_neg (by omega),h1,Option.bind_some]
 dsimp only
 rw[h2,Option.bind_some]
 rw[h3,Option.bind_some]
 rw[h4,Option.bind_some]
 rw[h5,Z06]
 congr 2
 apply List.ext_getElem?
 intro j
 by_cases hj:j<l.length
 ·rw[List.getElem?_map,List.getElem?_range hj,Option.map_some]
  obtain ⟨x,hx⟩:∃ x,l[j]?=some x:=⟨_,List.getElem?_eq_getElem hj⟩
  rw[hx]
  congr 1
  refine Z6W (fun c hc=>?_) ?_ ?_ ?_ ?_ ?_
  ·rw[Z1V _ _ _ _ _ _ _ hc]
   unfold Uq
   rw[←hLc c hc]
   exact VA _ _ hx
  ·exact VA (fun o=>tru o 0) false hx
  ·exact VA (fun o=>tru o 1) false hx
  ·exact VA (fun o=>txt o 0) ZE hx
  ·exact VA (fun o=>txt o 1) ZE hx
  ·exact VA (fun o=>txt o 2) ZE hx
 ·rw[List.getElem?_eq_none (by simp;omega),List.getElem?_eq_none (by omega)]
open Classical in
noncomputable def Xt (b:List UInt8):Option (List OpD):=(Xm b).bind fun q=>if q.2=[]∧∀ x∈q.1,x.right=true then some q.1 else none
theorem Z2f {b:List UInt8} {l:List OpD}:Xt b=some l↔l.length≤200∧(∀ x∈l,x.right=true∧x.wf)∧XM l=b:=by
 unfold Xt
 rw[Option.bind_eq_some_iff]
 constructor
 ·rintro ⟨⟨l0,r⟩,h1,h2⟩
  split at h2
  ·rename_i hc
   cases h2
   obtain ⟨a1,a2,a3⟩:=S9 h1
   refine ⟨a1,fun x hx=>⟨hc.2 x hx,a3 x hx⟩,?_⟩
   have:=hc.1
   dsimp only at this
   rw[a2,this,List.append_nil]
  ·cases h2
 ·rintro ⟨h1,h2,h3⟩
  exact ⟨(l,[]),Z1O h1 (by rw[List.append_nil];exact h3.symm) (fun x hx=>(h2 x hx).2),by rw[if_pos ⟨rfl,fun x hx=>(h2 x hx).1⟩]⟩
noncomputable def tkX (n:Nat):Nat→List OpD × List UInt8→Option (List OpD × List UInt8)
 | 0,p=>some p
 | c+1,p=>(tkX n c p).bind (XY n c)
theorem Z18 {n c:Nat} {p:List OpD × List UInt8} (h:tkX n c p=none):∀ d,tkX n (c+d) p=none
 | 0=>h
 | d+1=>by
  show (tkX n (c+d) p).bind _=none
  rw[Z18 h d]
  rfl
theorem Z1m {n c:Nat} {p q:List OpD × List UInt8} (h:tkX n c p=some q):tkX n (c+1) p=XY n c q:=by
 show (tkX n c p).bind _=_
 rw[h]
 rfl
theorem Z6C {n c:Nat} {p q:List OpD × List UInt8} (h:tkX n c p=some q) (k:XY n c q=none) {d:Nat} (hd:c<d):tkX n d p=none:=by
 have:=Z18 ((Z1m h).trans k) (d - (c+1))
 rwa [show c+1+(d - (c+1))=d by omega] at this
theorem Z5y {n c:Nat} {p q:List OpD × List UInt8} (h:XY n c p=some q):q.1.length=p.1.length:=by
 unfold XY at h
 rw[Option.bind_eq_some_iff] at h
 obtain ⟨t,_,h2⟩:=h
 rw[Option.map_eq_some_iff] at h2
 obtain ⟨x,_,h4⟩:=h2
 rw[←h4]
 exact Xo _ _ _
theorem WN (b:List UInt8):Xm b=(ZG b).bind fun n=>if 200<n then none else (ZP n 21 (b.drop (Z6 n).length)).bind fun p=>(tkT n 2 (YV p.1 n (List.replicate n zOp),p.2)).bind (tkX n 3):=by
 unfold Xm
 congr 1
 funext n
 split
 ·rfl
 congr 1
 funext p
 congr 1
 funext q
 show _=(((some q).bind (XY n 0)).bind (XY n 1)).bind (XY n 2)
 rw[Option.bind_some,Option.bind_assoc]
theorem VR {b:List UInt8} (h:Xm b=none):Xt b=none:=by
 unfold Xt
 rw[h]
 rfl
theorem Z3p {b:List UInt8} (h:ZG b=none):Xt b=none:=VR (by rw[WN,h];rfl)
theorem Z3N {b:List UInt8} {n:Nat} (h:ZG b=some n) (hn:200<n):Xt b=none:=VR (by rw[WN,h,Option.bind_some,if_pos hn])
theorem Z3v {b:List UInt8} {n:Nat} (h:ZG b=some n) (hn:¬ 200<n) (h2:ZP n 21 (b.drop (Z6 n).length)=none):Xt b=none:=VR (by rw[WN,h,Option.bind_some,if_neg hn,h2];rfl)
theorem Z4l {b r:List UInt8} {n:Nat} {L:List (List Int)} (h:ZG b=some n) (hn:¬ 200<n) (h2:ZP n 21 (b.drop (Z6 n).length)=some (L,r)) (h3:tkT n 2 (YV L n (List.replicate n zOp),r)=none):Xt b=none:=VR (by rw[WN,h,Option.bind_some,if_neg hn,h2,Option.bind_some];dsimp only;rw[h3];rfl)
theorem Z1d {b r:List UInt8} {n:Nat} {L:List (List Int)} {q:List OpD × List UInt8} (h:ZG b=some n) (hn:¬ 200<n) (h2:ZP n 21 (b.drop (Z6 n).length)=some (L,r)) (h3:tkT n 2 (YV L n (List.replicate n zOp),r)=some q):Xm b=tkX n 3 q:=by
 rw[WN,h,Option.bind_some,if_neg hn,h2,Option.bind_some]
 dsimp only
 rw[h3,Option.bind_some]
theorem Z3j {b r:List UInt8} {l:List OpD} (h:Xm b=some (l,r)) (hr:¬ (r=[]∧∀ x∈l,x.right=true)):Xt b=none:=by
 unfold Xt
 rw[h,Option.bind_some,if_neg hr]
theorem Z5H {b:List UInt8} {l:List OpD} (h:Xm b=some (l,[])) (hr:∀ x∈l,x.right=true):Xt b=some l:=by
 unfold Xt
 rw[h,Option.bind_some,if_pos ⟨rfl,hr⟩]
theorem Z0X (v:Value) (b:List UInt8) (n:Nat) (w:World) (h:Z0 u8c 1 w v b) (hn0:n≤65536):Calls Tryz.prog 156 #[v,.int .i64 n] w fun e w'=>Z76 w b n e w':=by
 obtain ⟨a,cap,rfl,hcap,hmax,-⟩:=id h
 unfold maxLen at hmax
 have HH:=Lib.hid h
 clear h
 have hn1:¬ (n:Int)<0:=by omega
 have hn2:¬ (65536:Int)<(n:Int):=by omega
 go_enter Tryz.func156,Tryz.ntmps156
 go_wp2_with fail
 go_loopg [7,8,9] (2*n+1) (fun g lv pv vv wr=>∃ (s:Sl) (l:List Bool) (p:Nat) (v:Bool),g=2*(n - l.length)+(if p=0 then 1 else 0)∧lv=.slice s.a s.n s.cap∧pv=.int .i64 p∧vv=.bool v∧s.n=l.length∧l.length≤n∧p≤b.length∧Hid (TB b n l p v)∧Hid (Own btc 1 4 w.heap.size wr (.slice s.a s.n s.cap) l∧Below w.heap.size w wr))
 case atStart=>exact ⟨⟨none,0,0⟩,[],0,false,by simp,rfl,rfl,rfl,rfl,Nat.zero_le _,Nat.zero_le _,Jh (TB.zero b n),Lib.hid ⟨Own.nil,Below.refl _ _⟩⟩
 case round =>
  obtain ⟨⟨sa,sn,sc⟩,l,p,v,hg,rfl,rfl,rfl,hsn,hln,hpb,HT,HU⟩:=hrel
  dsimp only at hsn HU ⊢
  subst hsn
  have HG:=Lib.hid hg
  clear hg
  by_cases hlt:l.length<n
  ·have hl1:(l.length:Int)<(n:Int):=by omega
   obtain ⟨a1,c1,hsl,hS1,-⟩:=ZW (P:=Tryz.prog) (ea:=u8c) Tryz.underlying22 Zl a b.length cap p hcap hpb
   have HS:=Jh (hS1 wr b rfl (HH.out.below HU.out.2))
   clear hS1
   go_wp2_with fail
   refine (V7 _ _ _ HS.out).mono ?_
   rintro e w5 ⟨rfl,e5⟩
   rw[←e5]
   clear e5 w5 HS
   cases hk:ZG (b.drop p) with
   | none =>
    have hr:XF (b.drop p)=.tuple #[.int .u64 0,.int .i64 0,.int .i64 31]:=by unfold XF;rw[hk]
    have HD:=Jh (HT.out.bad hlt (.inl hk))
    rw[hr]
    clear hk hr hsl
    go_wp2_with fail
    go_ret3
    exact .inr ⟨HD.out,rfl,HU.out.2⟩
   | some k =>
    have hr:XF (b.drop p)=.tuple #[.int .u64 k,.int .i64 (Z6 k).length,.int .i64 0]:=by unfold XF;rw[hk]
    have hk64:=(ZQ.1 hk).1
    rw[hr]
    obtain ⟨q,hq⟩:=Je ((Z6 k).length)
    rw[hq]
    obtain ⟨r,hrr⟩:∃ r:Nat,r=n - l.length:=⟨_,rfl⟩
    have hsub:(n:Int) - (l.length:Int)=(r:Int):=by omega
    by_cases hz:k=0∧p≠0
    ·obtain ⟨rfl,hp0⟩:=hz
     have hp4:(0:Int)<(p:Int):=by omega
     have HD:=Jh (HT.out.bad hlt (.inr ⟨0,hk,.inl ⟨rfl,hp0⟩⟩))
     clear hk hr hq hrr hp0 hsl
     go_wp2_with fail
     go_ret3
     exact .inr ⟨HD.out,rfl,HU.out.2⟩
    ·have hz3:((k:Int) == 0)=false∨(((k:Int) == 0)=true∧¬ (0:Int)<(p:Int)∧decide (0<p)=false):=by
      by_cases e:k=0
      ·have:p=0:=Classical.byContradiction fun h=>hz ⟨e,h⟩
       exact .inr ⟨by rw[e];rfl,by omega,decide_eq_false (by omega)⟩
      ·exact .inl (by
               have:¬ (k:Int)=0:=by omega
               simpa using this)
     by_cases hkn:r<k
     ·have hk1:(r:Int)<(k:Int):=by omega
      have HD:=Jh (HT.out.bad hlt (.inr ⟨k,hk,.inr (by omega)⟩))
      clear hk hr hq hrr hkn hz hsl
      rcases hz3 with hz3|⟨hz3,hz4,hz5⟩
      all_goals
       go_wp2_with fail
       go_ret3
       exact .inr ⟨HD.out,rfl,HU.out.2⟩
     ·have hk1:¬ (r:Int)<(k:Int):=by omega
      have HNX:=Jh (HT.out.step hlt hk hz (by omega))
      rw[hq] at HNX
      have hqp:=(ZQ.1 hk).2.length_le
      rw[hq,List.length_drop] at hqp
      have hq0:0<q:=by rw[←hq];exact List.length_pos_iff.2 (VE k)
      have HQ:Hid (0<q∧p+q≤b.length):=Lib.hid ⟨hq0,by omega⟩
      have HKN:Hid (k≤n - l.length∧(k=0→p=0)):=Lib.hid ⟨by omega,fun e=>Classical.byContradiction fun h=>hz ⟨e,h⟩⟩
      have hdk:decide (n - l.length<k)=false:=decide_eq_false (by omega)
      have hk65:k≤65536:=by omega
      clear hk hr hq hqp hq0 hkn hz hsl hrr
      have hpq:IntKind.i64.wrap ((p:Int)+(q:Int))=((p+q:Nat):Int):=by rw[IntWalk.i64_in _ (by have:=HQ.out;omega)];omega
      have HC:=Jh (Z4P v wr.heap.size 1 k (wr.alloc (.cells #[.bool v] 4)) (RT wr v 0 _ rfl) hk65 (Nat.le_refl _))
      rcases hz3 with hz3|⟨hz3,hz4,hz5⟩
      all_goals
       go_wp2_with fail
       refine HC.out.mono ?_
       rintro e w6 ⟨v6,rfl,hown6,b6⟩
       have hb0:Below w.heap.size w (wr.alloc (.cells #[.bool v] 4)):=HU.out.2.alloc HU.out.2.size _
       obtain ⟨⟨ta,tn,tc⟩,w7,hr7,own7,b7,hsz7⟩:=Z1P ((HU.out.1.alloc _).below1 b6) (hb0.trans (b6.mono hb0.size)) (hown6.slice Xh) (Nat.le_trans hb0.size b6.size) (by rw[List.length_replicate];omega)
       have HX:=Jh (And.intro own7 b7)
       have HTN:=Jh (own7.nlen Xh).1
       clear own7 b7 hown6 b6 hb0 HC hsz7
       go_wp2_with (at_builtin;refine Lib.wpList_append_run _ rfl _ _ _ _ rfl _ _ rfl rfl _ _ hr7 ?_)
       go_roundg (2*(n - (l++List.replicate k v).length)+(if p+q=0 then 1 else 0))
       case measure=>rw[HG.out,List.length_append,List.length_replicate,if_neg (by have:=HQ.out;omega)];have h1:=HKN.out;split <;> omega
       case rel=>exact ⟨⟨ta,tn,tc⟩,l++List.replicate k v,p+q,!v,rfl,rfl,rfl,rfl,HTN.out,by rw[List.length_append,List.length_replicate];have h1:=HKN.out.1;omega,HQ.out.2,HNX,HX⟩
  ·have hll:l.length=n:=by omega
   have hl1:¬ (l.length:Int)<(n:Int):=by omega
   have HD:=Jh (HT.out.done hll)
   clear hll hlt
   go_wp2_with fail
   go_ret3
   exact .inl ⟨l,p,_,HD.out,rfl,HU.out.1,HU.out.2⟩
theorem WQ {fn:Func} {p:Tmp} {ty:TypeId} (h:fn.results=#[.cell p ty]) (tmps:Array Value) (P:Program) (w:World) :
  (results fn tmps).run P w=((asAddr (tmps.getD p undef)).run P w).andThen fun a w₁=>(loadVar ty a).run P w₁:=by
 simp only[results,h]
 simp[Sem.run_bind,Result.andThen]
theorem TA (b off:Nat) (w:World):Calls Tryz.prog 96 #[.pointer (some ⟨b,off,none⟩)] w fun e w'=>e=.returned (.agg #[.pointer (some ⟨b,off+22,none⟩),.pointer (some ⟨b,off+25,none⟩)])∧Below w.heap.size w w':=by
 go_enter Tryz.func96,Tryz.ntmps96
 go_upto_region 1 with fail
 have hb0:Below w.heap.size w (w.alloc (.cells #[.pointer none,.pointer none] 168)).drew:=((Below.refl _ _).alloc (Nat.le_refl _) _).drew
 have ho0:(w.alloc (.cells #[.pointer none,.pointer none] 168)).drew.heap[w.heap.size]?=some (.cells #[.pointer none,.pointer none] 168 (0,0)):=ZD w _
 have hS0:(fun _:World=>True) (w.alloc (.cells #[.pointer none,.pointer none] 168)).drew:=trivial
 refine Z8 (fun _=>True) (fun _=>false) (by kernel_rfl) ?_
 generalize (w.alloc (.cells #[.pointer none,.pointer none] 168)).drew=W1 at hS0 hb0 ho0 ⊢
 refine J0 0 3 _ hS0 ?_
 try simp only[Ja]
 refine J0 1 4 (.pointer (some ⟨b,off,none⟩)) hS0 ?_
 try simp only[Ja]
 refine J0 2 5 (.pointer (some ⟨b,off+20,none⟩)) hS0 ?_
 try simp only[Ja]
 refine J0 3 6 (.pointer (some ⟨b,off+22,none⟩)) hS0 ?_
 try simp only[Ja]
 refine J0 4 7 _ hS0 ?_
 try simp only[Ja]
 refine J0 5 8 (.pointer (some ⟨b,off,none⟩)) hS0 ?_
 try simp only[Ja]
 refine J0 6 9 (.pointer (some ⟨b,off+23,none⟩)) hS0 ?_
 try simp only[Ja]
 refine J0 7 10 (.pointer (some ⟨b,off+25,none⟩)) hS0 ?_
 try simp only[Ja]
 refine J0 8 11 (.agg #[.pointer (some ⟨b,off+22,none⟩),.pointer (some ⟨b,off+25,none⟩)]) hS0 ?_
 try simp only[Ja]
 have c0:W1.cell? ⟨w.heap.size,0,none⟩=some (.pointer none):=by simp[World.cell?,ho0]
 have c1:W1.cell? ⟨w.heap.size,1,none⟩=some (.pointer none):=by simp[World.cell?,ho0]
 have f0:W1.frozen? ⟨w.heap.size,0,none⟩=false:=by simp[World.frozen?,ho0]
 have f1:W1.frozen? ⟨w.heap.size,1,none⟩=false:=by simp[World.frozen?,ho0]
 refine Zk (i:=9) (d:=none) (w':=((W1.setCell ⟨w.heap.size,0,none⟩ (.pointer (some ⟨b,off+22,none⟩))).setCell ⟨w.heap.size,1,none⟩ (.pointer (some ⟨b,off+25,none⟩)))) (by kernel_rfl) rfl rfl (by rfl) (by go_simp;try rfl) (fun _=>trivial) ?_
 try simp only[Ja]
 refine Z3 (by kernel_rfl) ?_ _
 have HB:Hid (Below w.heap.size w ((W1.setCell ⟨w.heap.size,0,none⟩ (.pointer (some ⟨b,off+22,none⟩))).setCell ⟨w.heap.size,1,none⟩ (.pointer (some ⟨b,off+25,none⟩)))):=Jh ((hb0.setCell (p:=⟨w.heap.size,0,none⟩) (Nat.le_refl _) (.pointer (some ⟨b,off+22,none⟩))).setCell (p:=⟨w.heap.size,1,none⟩) (Nat.le_refl _) (.pointer (some ⟨b,off+25,none⟩)))
 clear hb0 hS0
 go_wp2_with fail
 refine bodyPost_ret (v:=.agg #[.pointer (some ⟨b,off+22,none⟩),.pointer (some ⟨b,off+25,none⟩)]) (by rw[WQ rfl];go_simp) rfl ?_
 exact ⟨rfl,HB.out⟩
theorem UH (b off:Nat) (w:World):Calls Tryz.prog 98 #[.pointer (some ⟨b,off,none⟩)] w fun e w'=>e=.returned (.agg #[.pointer (some ⟨b,off+17,none⟩),.pointer (some ⟨b,off+18,none⟩),.pointer (some ⟨b,off+19,none⟩)])∧Below w.heap.size w w':=by
 go_enter Tryz.func98,Tryz.ntmps98
 go_upto_region 1 with fail
 have hb0:Below w.heap.size w (w.alloc (.cells #[.pointer none,.pointer none,.pointer none] 172)).drew:=((Below.refl _ _).alloc (Nat.le_refl _) _).drew
 have ho0:(w.alloc (.cells #[.pointer none,.pointer none,.pointer none] 172)).drew.heap[w.heap.size]?=some (.cells #[.pointer none,.pointer none,.pointer none] 172 (0,0)):=ZD w _
 have hS0:(fun _:World=>True) (w.alloc (.cells #[.pointer none,.pointer none,.pointer none] 172)).drew:=trivial
 refine Z8 (fun _=>True) (fun _=>false) (by kernel_rfl) ?_
 generalize (w.alloc (.cells #[.pointer none,.pointer none,.pointer none] 172)).drew=W1 at hS0 hb0 ho0 ⊢
 refine J0 0 3 _ hS0 ?_
 try simp only[Ja]
 refine J0 1 4 (.pointer (some ⟨b,off,none⟩)) hS0 ?_
 try simp only[Ja]
 refine J0 2 5 (.pointer (some ⟨b,off+17,none⟩)) hS0 ?_
 try simp only[Ja]
 refine J0 3 6 _ hS0 ?_
 try simp only[Ja]
 refine J0 4 7 (.pointer (some ⟨b,off,none⟩)) hS0 ?_
 try simp only[Ja]
 refine J0 5 8 (.pointer (some ⟨b,off+18,none⟩)) hS0 ?_
 try simp only[Ja]
 refine J0 6 9 _ hS0 ?_
 try simp only[Ja]
 refine J0 7 10 (.pointer (some ⟨b,off,none⟩)) hS0 ?_
 try simp only[Ja]
 refine J0 8 11 (.pointer (some ⟨b,off+19,none⟩)) hS0 ?_
 try simp only[Ja]
 refine J0 9 12 (.agg #[.pointer (some ⟨b,off+17,none⟩),.pointer (some ⟨b,off+18,none⟩),.pointer (some ⟨b,off+19,none⟩)]) hS0 ?_
 try simp only[Ja]
 have c0:W1.cell? ⟨w.heap.size,0,none⟩=some (.pointer none):=by simp[World.cell?,ho0]
 have c1:W1.cell? ⟨w.heap.size,1,none⟩=some (.pointer none):=by simp[World.cell?,ho0]
 have c2:W1.cell? ⟨w.heap.size,2,none⟩=some (.pointer none):=by simp[World.cell?,ho0]
 have f0:W1.frozen? ⟨w.heap.size,0,none⟩=false:=by simp[World.frozen?,ho0]
 have f1:W1.frozen? ⟨w.heap.size,1,none⟩=false:=by simp[World.frozen?,ho0]
 have f2:W1.frozen? ⟨w.heap.size,2,none⟩=false:=by simp[World.frozen?,ho0]
 refine Zk (i:=10) (d:=none) (w':=(((W1.setCell ⟨w.heap.size,0,none⟩ (.pointer (some ⟨b,off+17,none⟩))).setCell ⟨w.heap.size,1,none⟩ (.pointer (some ⟨b,off+18,none⟩))).setCell ⟨w.heap.size,2,none⟩ (.pointer (some ⟨b,off+19,none⟩)))) (by kernel_rfl) rfl rfl (by rfl) (by go_simp;try rfl) (fun _=>trivial) ?_
 try simp only[Ja]
 refine Z3 (by kernel_rfl) ?_ _
 have HB:Hid (Below w.heap.size w (((W1.setCell ⟨w.heap.size,0,none⟩ (.pointer (some ⟨b,off+17,none⟩))).setCell ⟨w.heap.size,1,none⟩ (.pointer (some ⟨b,off+18,none⟩))).setCell ⟨w.heap.size,2,none⟩ (.pointer (some ⟨b,off+19,none⟩)))):=Jh (((hb0.setCell (p:=⟨w.heap.size,0,none⟩) (Nat.le_refl _) (.pointer (some ⟨b,off+17,none⟩))).setCell (p:=⟨w.heap.size,1,none⟩) (Nat.le_refl _) (.pointer (some ⟨b,off+18,none⟩))).setCell (p:=⟨w.heap.size,2,none⟩) (Nat.le_refl _) (.pointer (some ⟨b,off+19,none⟩)))
 clear hb0 hS0
 go_wp2_with fail
 refine bodyPost_ret (v:=.agg #[.pointer (some ⟨b,off+17,none⟩),.pointer (some ⟨b,off+18,none⟩),.pointer (some ⟨b,off+19,none⟩)]) (by rw[WQ rfl];go_simp) rfl ?_
 exact ⟨rfl,HB.out⟩
def Z30 (w0:World) (T:Nat) (tl:Value) (res:Option (List OpD × List UInt8)) (e:Ending) (w':World):Prop :=
 (∃ l2 r2 tb',res=some (l2,r2)∧e=.returned .nilIface∧TKS w0 T w' tb' r2 tl l2)∨(res=none∧(∃ s m,e=.returned (Uu s m))∧Kp w0 T w')
theorem Z41 (b off:Nat):∀ {c:Nat},c<2→∀ w:World,(Instr.index 168 (.agg #[.pointer (some ⟨b,off+22,none⟩),.pointer (some ⟨b,off+25,none⟩)]) (.int .i64 (c:Int))).run Tryz.prog w=.ok (.pointer (some ⟨b,off+VV c,none⟩)) w
 | 0,_,w=>by kernel_rfl
 | 1,_,w=>by kernel_rfl
 | n+2,h,_=>absurd h (by omega)
theorem Own.notg {α β:Type} {ea:α→List Value} {q:Nat} {t:TypeId} {base base2 g:Nat} {W:World} {v v2:Value} {m:List α} {eb:β→List Value} {q2:Nat} {t2:TypeId} {l:List β} (h:Own ea q t base W v m) (h2:Own eb q2 t2 base2 W v2 l) (ht:t≠t2) (hg:v2.ownBlock=some g) (off:Nat) (u:Value):Own ea q t base (W.setCell ⟨g,off,none⟩ u) v m :=
 h.ext ((Ext.refl (·=g) W).setCell (p:=⟨g,off,none⟩) (.inr rfl) _) (fun b hb e=>by
  obtain ⟨c1,g1⟩:=h.tag hb
  obtain ⟨c2,g2⟩:=h2.tag hg
  rw[e,g2] at g1
  cases g1
  exact ht rfl)
theorem Own.notT {α:Type} {ea:α→List Value} {q:Nat} {t:TypeId} {base:Nat} {w0:World} {T:Nat} {W:World} {tb tl:Value} {r:List UInt8} {ls:List OpD} {v:Value} {m:List α} (h:Own ea q t base W v m) (h2:TKS w0 T W tb r tl ls) (ht:t≠90) (off:Nat) (u:Value):Own ea q t base (W.setCell ⟨T,off,none⟩ u) v m :=
 h.ext ((Ext.refl (·=T) W).setCell (p:=⟨T,off,none⟩) (.inr rfl) _) (fun b hb e=>by
  obtain ⟨c1,g1⟩:=h.tag hb
  have g2:=h2.cell
  rw[e,g2] at g1
  cases g1
  exact ht rfl)
theorem QO (w0:World) (T:Nat) (w:World) (tb tl:Value) (r:List UInt8) (ls:List OpD) (h:TKS w0 T w tb r tl ls) (hn:ls.length≤200):Calls Tryz.prog 105 #[.pointer (some ⟨T,0,none⟩)] w fun e w'=>Z30 w0 T tl (tkT ls.length 2 (ls,r)) e w':=by
 obtain ⟨⟨la,ln,lc⟩,el⟩:=h.own.sl
 dsimp only at el
 subst el
 obtain rfl:ln=ls.length:=(h.own.nlen OpD.len).1
 have HT:=Lib.hid h
 clear h
 go_enter Tryz.func105,Tryz.ntmps105
 go_wp2_with fail
 go_loopg [8] 2 (fun g kv wx=>∃ (k:Nat) (tb:Value) (ls2:List OpD) (r2:List UInt8),g=2 - k∧kv=.int .i64 k∧k≤2∧Hid (tkT ls.length k (ls,r)=some (ls2,r2)∧TKS w0 T wx tb r2 (.slice la ls.length lc) ls2))
 case atStart=>exact ⟨0,tb,ls,r,rfl,rfl,by omega,Lib.hid ⟨rfl,HT.out⟩⟩
 case round =>
  clear HT
  obtain ⟨k,tb1,ls2,r2,hg,rfl,hk,HR⟩:=hrel
  have HG:=Lib.hid hg
  clear hg
  by_cases hlt:k<2
  ·have hk1:(k:Int)<2:=by omega
   obtain ⟨ta,tcap,rfl,htc,htm,-⟩:=id HR.out.2.byt
   unfold maxLen at htm
   have hc0:=HR.out.2.cell
   have HLN:Hid (ls2.length=ls.length):=Jh (Qz HR.out.1)
   have hSW:(fun W:World=>W.cell? ⟨T,0,none⟩=some (.slice ta r2.length tcap)∧W.cell? ⟨T,1,none⟩=some (.slice la ls.length lc)) wr.drew:=⟨by show World.cell? wr _=_;simp[World.cell?,hc0],by show World.cell? wr _=_;simp[World.cell?,hc0]⟩
   clear hc0
   go_upto_region 4 with fail
   refine Z8 (fun W:World=>W.cell? ⟨T,0,none⟩=some (.slice ta r2.length tcap)∧W.cell? ⟨T,1,none⟩=some (.slice la ls.length lc)) (fun i=>i == 16) (by kernel_rfl) ?_
   have HR1:Hid (TKS w0 T wr.drew (.slice ta r2.length tcap) r2 (.slice la ls.length lc) ls2):=Jh (HR.out.2.below (Below.refl _ _).drew)
   have HB1:Hid (Z0 u8c 1 wr.drew (.slice ta r2.length tcap) r2):=Lib.hid HR1.out.bytes
   generalize wr.drew=W1 at hSW HR1 HB1 ⊢
   refine J2 0 12 _ hSW ?_
   try simp only[Ja]
   refine J2 1 13 (.pointer (some ⟨T,0,none⟩)) hSW ?_
   try simp only[Ja]
   refine J2 2 14 (.pointer (some ⟨T,0,none⟩)) hSW ?_
   try simp only[Ja]
   refine J2 3 15 (.slice ta r2.length tcap) hSW ?_
   try simp only[Ja]
   refine J2 4 16 _ hSW ?_
   try simp only[Ja]
   refine J2 5 17 (.pointer (some ⟨T,0,none⟩)) hSW ?_
   try simp only[Ja]
   refine J2 6 18 (.pointer (some ⟨T,1,none⟩)) hSW ?_
   try simp only[Ja]
   refine J2 7 19 (.slice la ls.length lc) hSW ?_
   try simp only[Ja]
   refine J2 8 20 (.int .i64 ls.length) hSW ?_
   try simp only[Ja]
   refine Zw (i:=9) (d:=some 21) (f:=156) (args:=#[.slice ta r2.length tcap,.int .i64 ls.length]) (w':=W1) (by kernel_rfl) rfl rfl (by rfl) (by go_simp;try rfl) ?_
   refine (Z0X _ r2 ls.length _ HB1.out (by omega)).mono ?_
   rintro e w3 (⟨V,u,v,hdec,rfl,hown,hb⟩|⟨hdec,rfl,hb⟩)
   ·have hS3:(fun W:World=>W.cell? ⟨T,0,none⟩=some (.slice ta r2.length tcap)∧W.cell? ⟨T,1,none⟩=some (.slice la ls.length lc)) w3:=⟨(hb.cell (p:=⟨T,0,none⟩) (Zh hSW.1)).trans hSW.1,(hb.cell (p:=⟨T,1,none⟩) (Zh hSW.2)).trans hSW.2⟩
    have HR3:=Jh (HR1.out.below hb)
    refine ⟨_,rfl,fun _=>hS3,?_⟩
    try simp only[Ja]
    refine J2 10 11 (.tuple #[v,.int .i64 (u:Nat),.int .i64 0]) hS3 ?_
    try simp only[Ja]
    refine J2 11 22 v hS3 ?_
    try simp only[Ja]
    refine J2 12 23 (.int .i64 (u:Nat)) hS3 ?_
    try simp only[Ja]
    refine J2 13 24 (.int .i64 0) hS3 ?_
    try simp only[Ja]
    refine J2 14 4 v hS3 ?_
    try simp only[Ja]
    refine J2 15 5 (.int .i64 (u:Nat)) hS3 ?_
    try simp only[Ja]
    refine Zy (i:=16) (d:=some 6) (v:=.int .i64 0) (w':=w3) (by kernel_rfl) rfl rfl (by rfl) (by go_simp;try rfl) (fun h=>by cases h) ?_
    try simp only[Ja]
    refine Z3 (by kernel_rfl) ?_ _
    clear hS3 hSW
    have HDEC:=Lib.hid hdec
    clear hdec
    have hcf:=Z3T (by omega) HDEC.out
    have hul:=hcf.2
    obtain ⟨⟨pa,pn,pc⟩,ep⟩:=hown.sl
    dsimp only at ep
    subst ep
    obtain rfl:pn=ls.length:=by have h:=(hown.nlen Xh).1;rw[hcf.1] at h;exact h
    have HVL:Hid (V.length=ls.length):=Lib.hid hcf.1
    have HOWN:Hid (Own btc 1 4 w0.heap.size w3 (.slice pa ls.length pc) V):=Jh (hown.mono HR1.out.bel.size)
    obtain ⟨a1,c1,hsl,hS1,-⟩:=ZW (P:=Tryz.prog) (ea:=u8c) Tryz.underlying22 Zl ta r2.length tcap u htc hul
    have HBY:=Jh (hS1 w0 r2 rfl HR3.out.byt)
    have hc3:=HR3.out.cell
    have cT:w3.cell? ⟨T,0,none⟩=some (.slice ta r2.length tcap):=by simp[World.cell?,hc3]
    have cT1:w3.cell? ⟨T,1,none⟩=some (.slice la ls.length lc):=by simp[World.cell?,hc3]
    have fT:w3.frozen? ⟨T,0,none⟩=false:=by simp[World.frozen?,hc3]
    have HN0:Hid (TKS w0 T (w3.setCell ⟨T,0,none⟩ (.slice a1 (r2.length - u) c1)) (.slice a1 (r2.length - u) c1) (r2.drop u) (.slice la ls.length lc) (Ye k V 0 ls2)∧Own btc 1 4 w0.heap.size (w3.setCell ⟨T,0,none⟩ (.slice a1 (r2.length - u) c1)) (.slice pa ls.length pc) V):=Lib.hid ⟨by unfold Ye;rw[Z0b];exact HR3.out.setB HBY.out,HOWN.out.notT HR3.out (by decide) _ _⟩
    have HST:=Jh (Z67 HR.out.1 HDEC.out)
    clear hown hcf hS1 hc3 HOWN HR HR1 HB1 HR3 HBY
    go_wp2_with fail
    clear cT cT1 fT hsl
    go_loopg [45] ls.length (fun g kv wx=>∃ i:Nat,g=ls.length - i∧kv=.int .i64 i∧i≤ls.length∧Hid (TKS w0 T wx (.slice a1 (r2.length - u) c1) (r2.drop u) (.slice la ls.length lc) (Ye k V i ls2)∧Own btc 1 4 w0.heap.size wx (.slice pa ls.length pc) V))
    case atStart=>exact ⟨0,rfl,rfl,by omega,HN0⟩
    case round =>
     clear HN0
     obtain ⟨i,hg2,rfl,hi,HI⟩:=hrel
     have HG2:=Lib.hid hg2
     clear hg2
     by_cases hli:i<ls.length
     ·have hi1:(i:Int)<(ls.length:Int):=by omega
      have hi0:(0:Int)≤(i:Int):=by omega
      obtain ⟨x,hx⟩:∃ x,ls2[i]?=some x:=⟨_,List.getElem?_eq_getElem (by rw[HLN.out];exact hli)⟩
      have HX:=Lib.hid hx
      clear hx
      obtain ⟨y,hy⟩:∃ y,V[i]?=some y:=⟨_,List.getElem?_eq_getElem (by rw[HVL.out];exact hli)⟩
      have HY:=Lib.hid hy
      clear hy
      obtain ⟨g,cap,e,hg1,hg3⟩:=HI.out.1.own.eq_slice.resolve_left (fun e=>by have h2:=e.2;have h3:=Xo (fun j o=>o.setT k (V.getD j false)) i ls2;rw[show Ws (fun j o=>o.setT k (V.getD j false)) i ls2=[] from h2,HLN.out] at h3;simp at h3;omega)
      injection e with e1 e2 e3
      subst e1 e3
      clear e2
      obtain ⟨vb,vo,ev,cv⟩:=(HI.out.2.slice Xh).at1 HY.out rfl
      cases ev
      have hc0:=HI.out.1.cell
      have hSW:(fun W:World=>W.cell? ⟨T,1,none⟩=some (.slice (some ⟨g,0,none⟩) ls.length lc)∧W.cell? ⟨vb,vo+i,none⟩=some (.bool y)) wr.drew:=⟨by show World.cell? wr _=_;simp[World.cell?,hc0],cv⟩
      have hix:=fun W:World=>Z41 g (i*26) hlt W
      clear hc0 cv
      go_upto_region 11 with fail
      refine Z8 (fun W:World=>W.cell? ⟨T,1,none⟩=some (.slice (some ⟨g,0,none⟩) ls.length lc)∧W.cell? ⟨vb,vo+i,none⟩=some (.bool y)) (fun i=>i == 14) (by kernel_rfl) ?_
      have HI1:Hid (TKS w0 T wr.drew (.slice a1 (r2.length - u) c1) (r2.drop u) (.slice (some ⟨g,0,none⟩) ls.length lc) (Ye k V i ls2)∧Own btc 1 4 w0.heap.size wr.drew (.slice (some ⟨vb,vo,none⟩) ls.length pc) V):=Lib.hid ⟨HI.out.1.below (Below.refl _ _).drew,HI.out.2.below1 (Below.refl _ _).drew⟩
      generalize wr.drew=W2 at hSW HI1 ⊢
      refine J2 0 48 _ hSW ?_
      try simp only[Ja]
      refine J2 1 49 (.pointer (some ⟨T,0,none⟩)) hSW ?_
      try simp only[Ja]
      refine J2 2 50 (.pointer (some ⟨T,1,none⟩)) hSW ?_
      try simp only[Ja]
      refine J2 3 51 (.slice (some ⟨g,0,none⟩) ls.length lc) hSW ?_
      try simp only[Ja]
      refine J2 4 52 (.int .i64 i) hSW ?_
      try simp only[Ja]
      refine J2 5 53 (.pointer (some ⟨g,i*26,none⟩)) hSW ?_
      try simp only[Ja]
      refine J2 7 55 (.int .i64 k) hSW ?_
      try simp only[Ja]
      refine J2 9 57 (.slice (some ⟨vb,vo,none⟩) ls.length pc) hSW ?_
      try simp only[Ja]
      refine J2 10 58 (.int .i64 i) hSW ?_
      try simp only[Ja]
      refine J2 11 59 (.pointer (some ⟨vb,vo+i,none⟩)) hSW ?_
      try simp only[Ja]
      refine J2 12 60 (.bool y) hSW ?_
      try simp only[Ja]
      refine Zw (i:=6) (d:=some 54) (f:=96) (args:=#[.pointer (some ⟨g,i*26,none⟩)]) (w':=W2) (by kernel_rfl) rfl rfl (by rfl) (by go_simp;try rfl) ?_
      refine (TA g (i*26) W2).mono ?_
      rintro e w4 ⟨rfl,hb4⟩
      have hS4:(fun W:World=>W.cell? ⟨T,1,none⟩=some (.slice (some ⟨g,0,none⟩) ls.length lc)∧W.cell? ⟨vb,vo+i,none⟩=some (.bool y)) w4:=⟨(hb4.cell (p:=⟨T,1,none⟩) (Zh hSW.1)).trans hSW.1,(hb4.cell (p:=⟨vb,vo+i,none⟩) (Zh hSW.2)).trans hSW.2⟩
      have HI4:=Jh (And.intro (HI1.out.1.below hb4) (HI1.out.2.below1 hb4))
      refine ⟨_,rfl,fun _=>hS4,?_⟩
      try simp only[Ja]
      refine J2 8 56 (.pointer (some ⟨g,i*26+VV k,none⟩)) hS4 ?_
      try simp only[Ja]
      refine J2 13 61 (.pointer (some ⟨g,i*26+VV k,none⟩)) hS4 ?_
      try simp only[Ja]
      have hln:ls.length=(Ye k V i ls2).length:=by unfold Ye;rw[Xo];exact HLN.out.symm
      have hk4:=HI4.out.1
      rw[hln] at hk4
      obtain ⟨u0,hu0⟩:∃ u0,x.cells[VV k]?=some u0:=⟨_,List.getElem?_eq_getElem (by rw[OpD.len];exact Z2Y k)⟩
      have c4:=hk4.own.cellAt OpD.len (Sz _ i HX.out) hu0
      have f4:=hk4.own.free (i*26+VV k)
      have hst:=hk4.setOp (Sz _ i HX.out) (Z2Y k) (Z4f x k y)
      have HN:Hid (TKS w0 T (w4.setCell ⟨g,i*26+VV k,none⟩ (.bool y)) (.slice a1 (r2.length - u) c1) (r2.drop u) (.slice (some ⟨g,0,none⟩) ls.length lc) (Ye k V (i+1) ls2)∧Own btc 1 4 w0.heap.size (w4.setCell ⟨g,i*26+VV k,none⟩ (.bool y)) (.slice (some ⟨vb,vo,none⟩) ls.length pc) V):=Jh (by
       refine ⟨?_,HI4.out.2.notg HI4.out.1.own (by decide) rfl _ _⟩
       have e:Ye k V (i+1) ls2=(Ye k V i ls2).set i (x.setT k y):=by
        have hyg:V.getD i false=y:=by rw[List.getD_eq_getElem?_getD,HY.out];rfl
        unfold Ye
        rw[Z0i _ _ i HX.out (fun _ _=>rfl),hyg]
       rw[e,hln]
       exact hst)
      clear hk4 hst hu0 hln
      refine Zk (i:=14) (d:=none) (w':=w4.setCell ⟨g,i*26+VV k,none⟩ (.bool y)) (by kernel_rfl) rfl rfl (by rfl) (by go_simp;try rfl) (fun h=>by cases h) ?_
      try simp only[Ja]
      refine Z3 (by kernel_rfl) ?_ _
      clear hS4 hSW HI4 HI1 HI c4 f4 hix
      go_wp2_with fail
      go_roundg (ls.length - (i+1))
      case measure=>rw[HG2.out];omega
      case rel=>exact ⟨i+1,rfl,by simp,by omega,HN⟩
     ·obtain rfl:i=ls.length:=by omega
      have hi1:¬ (ls.length:Int)<(ls.length:Int):=by omega
      have HN:Hid (tkT ls.length (k+1) (ls,r)=some (Ye k V ls.length ls2,r2.drop u)∧TKS w0 T wr (.slice a1 (r2.length - u) c1) (r2.drop u) (.slice la ls.length lc) (Ye k V ls.length ls2)):=Lib.hid ⟨HST.out,HI.out.1⟩
      clear HI HST
      go_wp2_with fail
      go_roundg (2 - (k+1))
      case measure=>rw[HG.out];omega
      case rel=>exact ⟨k+1,_,_,_,rfl,by simp,by omega,HN⟩
   ·have hS3:(fun W:World=>W.cell? ⟨T,0,none⟩=some (.slice ta r2.length tcap)∧W.cell? ⟨T,1,none⟩=some (.slice la ls.length lc)) w3:=⟨(hb.cell (p:=⟨T,0,none⟩) (Zh hSW.1)).trans hSW.1,(hb.cell (p:=⟨T,1,none⟩) (Zh hSW.2)).trans hSW.2⟩
    have HR3:=Jh (HR1.out.below hb)
    refine ⟨_,rfl,fun _=>hS3,?_⟩
    try simp only[Ja]
    refine J2 10 11 (.tuple #[.slice none 0 0,.int .i64 0,.int .i64 41]) hS3 ?_
    try simp only[Ja]
    refine J2 11 22 (.slice none 0 0) hS3 ?_
    try simp only[Ja]
    refine J2 12 23 (.int .i64 0) hS3 ?_
    try simp only[Ja]
    refine J2 13 24 (.int .i64 41) hS3 ?_
    try simp only[Ja]
    refine J2 14 4 (.slice none 0 0) hS3 ?_
    try simp only[Ja]
    refine J2 15 5 (.int .i64 0) hS3 ?_
    try simp only[Ja]
    refine Zy (i:=16) (d:=some 6) (v:=.int .i64 41) (w':=w3) (by kernel_rfl) rfl rfl (by rfl) (by go_simp;try rfl) (fun h=>by cases h) ?_
    try simp only[Ja]
    refine Z3 (by kernel_rfl) ?_ _
    clear hS3 hSW
    have HBAD:Hid (tkT ls.length 2 (ls,r)=none):=Jh (Z6S HR.out.1 hdec hlt)
    clear hdec
    go_wp2_with fail
    go_ret
    exact Or.inr ⟨HBAD.out,⟨_,_,rfl⟩,HR3.out.kp⟩
  ·obtain rfl:k=2:=by omega
   have hk1:¬ (2:Int)<2:=by omega
   clear hk hlt
   go_wp2_with fail
   go_ret
   exact Or.inl ⟨_,_,_,HR.out.1,rfl,HR.out.2⟩
theorem Z5D {P:Program} {α:Type} {ea:α→List Value} {q:Nat} {t e:TypeId} (ht:P.underlying t=some (.slice e)) (hsz:(P.info? e).map (·.size)=some q) (a:Option Addr) (n cap p:Nat) (hn:n≤cap) (hp:p≤n) :
  ∃ a',(∀ W,(Instr.slice t (.slice a n cap) none (some (.int .i64 (p:Int))) none).run P W=.ok (.slice a' p cap) W)∧(∀ W (l:List α),l.length=n→Z0 ea q W (.slice a n cap) l→Z0 ea q W (.slice a' p cap) (l.take p)):=by
 obtain ⟨i,hi,hq⟩:∃ i,P.info? e=some i∧i.size=q:=by
  cases h:P.info? e with
  | none=>rw[h] at hsz;cases hsz
  | some i=>rw[h] at hsz;exact ⟨i,rfl,Option.some.inj hsz⟩
 have hpc:p≤cap:=by omega
 refine ⟨if cap=0 then a else a.map (·.add 0),fun W=>?_,fun W l hl h=>?_⟩
 ·simp[Instr.slice,Instr.sliceBounds,Instr.sliceBound,asIntOf,run_underlying ht,sizeOf,typeInfo,hi,hq,hpc,hn,eq_comm]
 ·by_cases hl0:l=[]
  ·subst hl0
   simp at hl
   obtain ⟨a2,c2,e2,h1,h2,h3⟩:=h
   cases e2
   have hp0:p=0:=by omega
   subst hp0
   exact ⟨_,_,rfl,Nat.zero_le _,h2,fun hne=>absurd rfl hne⟩
  ·have h5:=Z0.take1 (k:=p) h (by omega)
   have e:(if cap=0 then a else a.map (·.add 0))=a:=by
    obtain ⟨a2,c2,e2,h1,h2,h3⟩:=h
    cases e2
    obtain ⟨b,off,rfl,_⟩:=h3 hl0
    split
    ·rfl
    ·simp[Wt]
   rw[e]
   exact h5
theorem Z3M (b off:Nat):∀ {c:Nat},c<3→∀ w:World,(Instr.index 172 (.agg #[.pointer (some ⟨b,off+17,none⟩),.pointer (some ⟨b,off+18,none⟩),.pointer (some ⟨b,off+19,none⟩)]) (.int .i64 (c:Int))).run Tryz.prog w=.ok (.pointer (some ⟨b,off+VH c,none⟩)) w
 | 0,_,w=>by kernel_rfl
 | 1,_,w=>by kernel_rfl
 | 2,_,w=>by kernel_rfl
 | n+3,h,_=>absurd h (by omega)
theorem Z5f (c i:Nat) {X:List ByteArray} {ls:List OpD} {x:OpD} {s:ByteArray} (hX:X.length=i) (hx:ls[i]?=some x):YP c (X++[s]) (i+1) ls=(YP c X i ls).set i (x.setX c s):=by
 have h1:(X++[s]).getD i ZE=s:=by rw[List.getD_eq_getElem?_getD,List.getElem?_append_right (by omega),hX,Nat.sub_self];rfl
 unfold YP
 rw[Z0i (fun j o=>o.setX c (X.getD j ZE)) (fun j o=>o.setX c ((X++[s]).getD j ZE)) i hx (fun j hj=>by
  funext o
  congr 1
  rw[List.getD_eq_getElem?_getD,List.getD_eq_getElem?_getD,List.getElem?_append_left (by omega)]),h1]
theorem Z0V (w0:World) (T:Nat) (w:World) (tb tl:Value) (r:List UInt8) (ls:List OpD) (c:Nat) (hc:c<3) (h:TKS w0 T w tb r tl ls) (hn:ls.length≤200):Calls Tryz.prog 106 #[.pointer (some ⟨T,0,none⟩),.int .i64 c] w fun e w'=>Z30 w0 T tl (XY ls.length c (ls,r)) e w':=by
 obtain ⟨⟨la,ln,lc⟩,el⟩:=h.own.sl
 dsimp only at el
 subst el
 obtain rfl:ln=ls.length:=(h.own.nlen OpD.len).1
 obtain ⟨ta,tcap,rfl,htc,htm,-⟩:=id h.byt
 unfold maxLen at htm
 have hc0:=h.cell
 have HT:=Lib.hid h
 clear h
 have hSW:(fun W:World=>W.cell? ⟨T,0,none⟩=some (.slice ta r.length tcap)∧W.cell? ⟨T,1,none⟩=some (.slice la ls.length lc)) w.drew:=⟨by show World.cell? w _=_;simp[World.cell?,hc0],by show World.cell? w _=_;simp[World.cell?,hc0]⟩
 clear hc0
 go_enter Tryz.func106,Tryz.ntmps106
 go_upto_region 1 with fail
 refine Z8 (fun W:World=>W.cell? ⟨T,0,none⟩=some (.slice ta r.length tcap)∧W.cell? ⟨T,1,none⟩=some (.slice la ls.length lc)) (fun i=>i == 16) (by kernel_rfl) ?_
 have HR1:Hid (TKS w0 T w.drew (.slice ta r.length tcap) r (.slice la ls.length lc) ls):=Jh (HT.out.below (Below.refl _ _).drew)
 have HB1:Hid (Z0 u8c 1 w.drew (.slice ta r.length tcap) r):=Lib.hid HR1.out.bytes
 generalize w.drew=W1 at hSW HR1 HB1 ⊢
 refine J2 0 11 _ hSW ?_
 try simp only[Ja]
 refine J2 1 12 (.pointer (some ⟨T,0,none⟩)) hSW ?_
 try simp only[Ja]
 refine J2 2 13 (.pointer (some ⟨T,0,none⟩)) hSW ?_
 try simp only[Ja]
 refine J2 3 14 (.slice ta r.length tcap) hSW ?_
 try simp only[Ja]
 refine J2 4 15 _ hSW ?_
 try simp only[Ja]
 refine J2 5 16 (.pointer (some ⟨T,0,none⟩)) hSW ?_
 try simp only[Ja]
 refine J2 6 17 (.pointer (some ⟨T,1,none⟩)) hSW ?_
 try simp only[Ja]
 refine J2 7 18 (.slice la ls.length lc) hSW ?_
 try simp only[Ja]
 refine J2 8 19 (.int .i64 ls.length) hSW ?_
 try simp only[Ja]
 refine Zw (i:=9) (d:=some 20) (f:=153) (args:=#[.slice ta r.length tcap,.int .i64 ls.length]) (w':=W1) (by kernel_rfl) rfl rfl (by rfl) (by go_simp;try rfl) ?_
 refine (U8 _ r ls.length _ HB1.out (by omega)).mono ?_
 rintro e w3 (⟨V,u,v,hdec,rfl,hown,hb⟩|⟨hdec,rfl,hb⟩)
 ·have hS3:(fun W:World=>W.cell? ⟨T,0,none⟩=some (.slice ta r.length tcap)∧W.cell? ⟨T,1,none⟩=some (.slice la ls.length lc)) w3:=⟨(hb.cell (p:=⟨T,0,none⟩) (Zh hSW.1)).trans hSW.1,(hb.cell (p:=⟨T,1,none⟩) (Zh hSW.2)).trans hSW.2⟩
  have HR3:=Jh (HR1.out.below hb)
  refine ⟨_,rfl,fun _=>hS3,?_⟩
  try simp only[Ja]
  refine J2 10 10 (.tuple #[v,.int .i64 (u:Nat),.int .i64 0]) hS3 ?_
  try simp only[Ja]
  refine J2 11 21 v hS3 ?_
  try simp only[Ja]
  refine J2 12 22 (.int .i64 (u:Nat)) hS3 ?_
  try simp only[Ja]
  refine J2 13 23 (.int .i64 0) hS3 ?_
  try simp only[Ja]
  refine J2 14 5 v hS3 ?_
  try simp only[Ja]
  refine J2 15 6 (.int .i64 (u:Nat)) hS3 ?_
  try simp only[Ja]
  refine Zy (i:=16) (d:=some 7) (v:=.int .i64 0) (w':=w3) (by kernel_rfl) rfl rfl (by rfl) (by go_simp;try rfl) (fun h=>by cases h) ?_
  try simp only[Ja]
  refine Z3 (by kernel_rfl) ?_ _
  clear hS3 hSW
  have HDEC:=Lib.hid hdec
  clear hdec
  have hcf:=TT (by omega) HDEC.out
  have hul:=hcf.2
  obtain ⟨⟨pa,pn,pc⟩,ep⟩:=hown.sl
  dsimp only at ep
  subst ep
  obtain rfl:pn=ls.length:=by have h:=(hown.nlen ZF).1;rw[hcf.1] at h;exact h
  have HVL:Hid (V.length=ls.length):=Lib.hid hcf.1
  have HOWN:Hid (Own Zr 1 3 w0.heap.size w3 (.slice pa ls.length pc) V):=Jh (hown.mono HR1.out.bel.size)
  obtain ⟨a1,c1,hsl,hS1,-⟩:=ZW (P:=Tryz.prog) (ea:=u8c) Tryz.underlying22 Zl ta r.length tcap u htc hul
  have HBY:=Jh (hS1 w0 r rfl HR3.out.byt)
  have hc3:=HR3.out.cell
  have cT:w3.cell? ⟨T,0,none⟩=some (.slice ta r.length tcap):=by simp[World.cell?,hc3]
  have fT:w3.frozen? ⟨T,0,none⟩=false:=by simp[World.frozen?,hc3]
  have HN0:Hid (TKS w0 T (w3.setCell ⟨T,0,none⟩ (.slice a1 (r.length - u) c1)) (.slice a1 (r.length - u) c1) (r.drop u) (.slice la ls.length lc) (YP c [] 0 ls)∧Own Zr 1 3 w0.heap.size (w3.setCell ⟨T,0,none⟩ (.slice a1 (r.length - u) c1)) (.slice pa ls.length pc) V):=Lib.hid ⟨by unfold YP;rw[Z0b];exact HR3.out.setB HBY.out,HOWN.out.notT HR3.out (by decide) _ _⟩
  clear hown hcf hS1 hc3 HOWN HR1 HB1 HR3 HBY HT
  go_wp2_with fail
  clear cT fT hsl
  go_loopg [41] ls.length (fun g kv wx=>∃ (i:Nat) (X:List ByteArray) (r3:List UInt8) (tb3:Value),g=ls.length - i∧kv=.int .i64 i∧i≤ls.length∧Hid (Wn V i (r.drop u)=some (X,r3)∧TKS w0 T wx tb3 r3 (.slice la ls.length lc) (YP c X i ls)∧Own Zr 1 3 w0.heap.size wx (.slice pa ls.length pc) V))
  case atStart=>exact ⟨0,[],_,_,rfl,rfl,by omega,Lib.hid ⟨rfl,HN0.out.1,HN0.out.2⟩⟩
  case round =>
   clear HN0 hul htc htm
   obtain ⟨i,X,r3,tb3,hg2,rfl,hi,HI⟩:=hrel
   have HG2:=Lib.hid hg2
   clear hg2
   by_cases hli:i<ls.length
   ·have hi1:(i:Int)<(ls.length:Int):=by omega
    have hi0:(0:Int)≤(i:Int):=by omega
    obtain ⟨x,hx⟩:∃ x,ls[i]?=some x:=⟨_,List.getElem?_eq_getElem hli⟩
    have HX:=Lib.hid hx
    clear hx
    obtain ⟨y,hy⟩:∃ y,V[i]?=some y:=⟨_,List.getElem?_eq_getElem (by rw[HVL.out];exact hli)⟩
    have HY:=Lib.hid hy
    clear hy
    obtain ⟨vb,vo,ev,cv⟩:=(HI.out.2.2.slice ZF).at1 HY.out rfl
    cases ev
    obtain ⟨t3,c3,rfl,ht3,hm3,-⟩:=id HI.out.2.1.byt
    unfold maxLen at hm3
    have hc0:=HI.out.2.1.cell
    have cT:wr.cell? ⟨T,0,none⟩=some (.slice t3 r3.length c3):=by simp[World.cell?,hc0]
    by_cases hbad:y<0∨(r3.length:Int)<y
    ·have HBAD:Hid (XY ls.length c (ls,r)=none):=Jh (by unfold XY;dsimp only;rw[HDEC.out,Option.bind_some];dsimp only;rw[Z5r HI.out.1 HY.out hbad hli];rfl)
     have HBL:=Lib.hid HI.out.2.1.kp
     clear hc0 HI
     by_cases hy0:y<0
     ·clear hbad
      go_wp2_with fail
      go_ret
      exact Or.inr ⟨HBAD.out,⟨_,_,rfl⟩,HBL.out⟩
     ·have hy1:(r3.length:Int)<y:=hbad.resolve_left hy0
      clear hbad
      go_wp2_with fail
      go_ret
      exact Or.inr ⟨HBAD.out,⟨_,_,rfl⟩,HBL.out⟩
    ·obtain ⟨m,rfl⟩:∃ m:Nat,y=(m:Int):=Int.eq_ofNat_of_zero_le (by omega)
     have hy0:¬ (m:Int)<0:=by omega
     have hy1:¬ (r3.length:Int)<(m:Int):=by omega
     have hmr:m≤r3.length:=by omega
     clear hbad
     obtain ⟨g,cap,e,hg1,hg3⟩:=HI.out.2.1.own.eq_slice.resolve_left (fun e=>by have h2:=e.2;have h3:=Xo (fun j o=>o.setX c (X.getD j ZE)) i ls;rw[show Ws (fun j o=>o.setX c (X.getD j ZE)) i ls=[] from h2] at h3;simp at h3;omega)
     injection e with e1 e2 e3
     subst e1 e3
     clear e2
     obtain ⟨a4,hs4,hS4⟩:=Z5D (P:=Tryz.prog) (ea:=u8c) Tryz.underlying22 Zl t3 r3.length c3 m ht3 hmr
     have hby4:=hS4 wr.drew r3 rfl ((HI.out.2.1.below (Below.refl _ _).drew).bytes)
     clear hS4
     obtain ⟨a5,c5,hs5,hS5,-⟩:=ZW (P:=Tryz.prog) (ea:=u8c) Tryz.underlying22 Zl t3 r3.length c3 m ht3 hmr
     have HBY:=Jh (hS5 w0 r3 rfl HI.out.2.1.byt)
     clear hS5
     have hSW:(fun W:World=>W.cell? ⟨T,0,none⟩=some (.slice t3 r3.length c3)∧W.cell? ⟨T,1,none⟩=some (.slice (some ⟨g,0,none⟩) ls.length lc)∧Z0 u8c 1 W (.slice a4 m c3) (r3.take m)) wr.drew:=⟨cT,by show World.cell? wr _=_;simp[World.cell?,hc0],hby4⟩
     have hix:=fun W:World=>Z3M g (i*26) hc W
     clear hc0 hby4
     go_upto_region 10 with fail
     clear cT cv
     refine Z8 (fun W:World=>W.cell? ⟨T,0,none⟩=some (.slice t3 r3.length c3)∧W.cell? ⟨T,1,none⟩=some (.slice (some ⟨g,0,none⟩) ls.length lc)∧Z0 u8c 1 W (.slice a4 m c3) (r3.take m)) (fun i=>i == 17) (by kernel_rfl) ?_
     have HI1:Hid (TKS w0 T wr.drew (.slice t3 r3.length c3) r3 (.slice (some ⟨g,0,none⟩) ls.length lc) (YP c X i ls)∧Own Zr 1 3 w0.heap.size wr.drew (.slice (some ⟨vb,vo,none⟩) ls.length pc) V):=Lib.hid ⟨HI.out.2.1.below (Below.refl _ _).drew,HI.out.2.2.below1 (Below.refl _ _).drew⟩
     have HCUT:=Lib.hid HI.out.1
     clear HI
     generalize wr.drew=W2 at hSW HI1 ⊢
     refine J3 0 60 _ hSW ?_
     try simp only[Ja]
     refine J3 1 61 (.pointer (some ⟨T,0,none⟩)) hSW ?_
     try simp only[Ja]
     refine J3 2 62 (.pointer (some ⟨T,1,none⟩)) hSW ?_
     try simp only[Ja]
     refine J3 3 63 (.slice (some ⟨g,0,none⟩) ls.length lc) hSW ?_
     try simp only[Ja]
     refine J3 4 64 (.int .i64 i) hSW ?_
     try simp only[Ja]
     refine J3 5 65 (.pointer (some ⟨g,i*26,none⟩)) hSW ?_
     try simp only[Ja]
     refine J3 7 67 (.int .i64 c) hSW ?_
     try simp only[Ja]
     refine J3 9 69 _ hSW ?_
     try simp only[Ja]
     refine J3 10 70 (.pointer (some ⟨T,0,none⟩)) hSW ?_
     try simp only[Ja]
     refine J3 11 71 (.pointer (some ⟨T,0,none⟩)) hSW ?_
     try simp only[Ja]
     refine J3 12 72 (.slice t3 r3.length c3) hSW ?_
     try simp only[Ja]
     refine J3 13 73 (.int .i64 m) hSW ?_
     try simp only[Ja]
     refine J3 14 74 (.slice a4 m c3) hSW ?_
     try simp only[Ja]
     refine JR 15 75 (.string ⟨(r3.take m).toArray⟩) rfl rfl hSW (fun W hW=>by obtain ⟨q0,q1,q2⟩:=hW;have q3:=Yu q2;go_simp;try rfl) ?_
     try simp only[Ja]
     refine Zw (i:=6) (d:=some 66) (f:=98) (args:=#[.pointer (some ⟨g,i*26,none⟩)]) (w':=W2) (by kernel_rfl) rfl rfl (by rfl) (by go_simp;try rfl) ?_
     refine (UH g (i*26) W2).mono ?_
     rintro e w4 ⟨rfl,hb4⟩
     have hS4:(fun W:World=>W.cell? ⟨T,0,none⟩=some (.slice t3 r3.length c3)∧W.cell? ⟨T,1,none⟩=some (.slice (some ⟨g,0,none⟩) ls.length lc)∧Z0 u8c 1 W (.slice a4 m c3) (r3.take m)) w4:=⟨(hb4.cell (p:=⟨T,0,none⟩) (Zh hSW.1)).trans hSW.1,(hb4.cell (p:=⟨T,1,none⟩) (Zh hSW.2.1)).trans hSW.2.1,hSW.2.2.below hb4⟩
     have HI4:=Jh (And.intro (HI1.out.1.below hb4) (HI1.out.2.below1 hb4))
     refine ⟨_,rfl,fun _=>hS4,?_⟩
     try simp only[Ja]
     refine J3 8 68 (.pointer (some ⟨g,i*26+VH c,none⟩)) hS4 ?_
     try simp only[Ja]
     refine J3 16 76 (.pointer (some ⟨g,i*26+VH c,none⟩)) hS4 ?_
     try simp only[Ja]
     have hln:ls.length=(YP c X i ls).length:=by unfold YP;rw[Xo]
     have hk4:=HI4.out.1
     have hk5:=hk4
     rw[hln] at hk4
     obtain ⟨u0,hu0⟩:∃ u0,x.cells[VH c]?=some u0:=⟨_,List.getElem?_eq_getElem (by rw[OpD.len];exact Z32 c)⟩
     have c4:=hk4.own.cellAt OpD.len (Sz _ i HX.out) hu0
     have f4:=hk4.own.free (i*26+VH c)
     have hst:=hk4.setOp (Sz _ i HX.out) (Z32 c) (Z4a x c ⟨(r3.take m).toArray⟩)
     have HN1:Hid (TKS w0 T (w4.setCell ⟨g,i*26+VH c,none⟩ (.string ⟨(r3.take m).toArray⟩)) (.slice t3 r3.length c3) r3 (.slice (some ⟨g,0,none⟩) ls.length lc) (YP c (X++[⟨(r3.take m).toArray⟩]) (i+1) ls)∧Own Zr 1 3 w0.heap.size (w4.setCell ⟨g,i*26+VH c,none⟩ (.string ⟨(r3.take m).toArray⟩)) (.slice (some ⟨vb,vo,none⟩) ls.length pc) V):=Jh (by
      refine ⟨?_,HI4.out.2.notg HI4.out.1.own (by decide) rfl _ _⟩
      rw[Z5f c i (Z23 HCUT.out).1 HX.out]
      have hq:=hst
      rw[←hln] at hq
      exact hq)
     clear hk4 hk5 hst hu0 hln
     refine Zk (i:=17) (d:=none) (w':=w4.setCell ⟨g,i*26+VH c,none⟩ (.string ⟨(r3.take m).toArray⟩)) (by kernel_rfl) rfl rfl (by rfl) (by go_simp;try rfl) (fun h=>by cases h) ?_
     try simp only[Ja]
     refine Z3 (by kernel_rfl) ?_ _
     clear hS4 hSW HI4 HI1 c4 f4 hix hs4
     generalize (w4.setCell ⟨g,i*26+VH c,none⟩ (.string ⟨(r3.take m).toArray⟩))=w5 at HN1 ⊢
     have hc5:=HN1.out.1.cell
     have cT5:w5.cell? ⟨T,0,none⟩=some (.slice t3 r3.length c3):=by simp[World.cell?,hc5]
     have fT5:w5.frozen? ⟨T,0,none⟩=false:=by simp[World.frozen?,hc5]
     clear hc5
     have HN:Hid (Wn V (i+1) (r.drop u)=some (X++[⟨(r3.take m).toArray⟩],r3.drop m)∧TKS w0 T (w5.setCell ⟨T,0,none⟩ (.slice a5 (r3.length - m) c5)) (.slice a5 (r3.length - m) c5) (r3.drop m) (.slice (some ⟨g,0,none⟩) ls.length lc) (YP c (X++[⟨(r3.take m).toArray⟩]) (i+1) ls)∧Own Zr 1 3 w0.heap.size (w5.setCell ⟨T,0,none⟩ (.slice a5 (r3.length - m) c5)) (.slice (some ⟨vb,vo,none⟩) ls.length pc) V):=Lib.hid ⟨Z4R HCUT.out HY.out hmr,HN1.out.1.setB HBY.out,HN1.out.2.notT HN1.out.1 (by decide) _ _⟩
     clear HN1 HBY HCUT
     go_wp2_with fail
     go_roundg (ls.length - (i+1))
     case measure=>rw[HG2.out];omega
     case rel=>exact ⟨i+1,_,_,_,rfl,by simp,by omega,HN⟩
   ·obtain rfl:i=ls.length:=by omega
    have hi1:¬ (ls.length:Int)<(ls.length:Int):=by omega
    have HN:Hid (XY ls.length c (ls,r)=some (YP c X ls.length ls,r3)∧TKS w0 T wr tb3 r3 (.slice la ls.length lc) (YP c X ls.length ls)):=Lib.hid ⟨by unfold XY;dsimp only;rw[HDEC.out,Option.bind_some];dsimp only;rw[HI.out.1];rfl,HI.out.2.1⟩
    clear HI
    go_wp2_with fail
    go_ret
    exact Or.inl ⟨_,_,_,HN.out.1,rfl,HN.out.2⟩
 ·have hS3:(fun W:World=>W.cell? ⟨T,0,none⟩=some (.slice ta r.length tcap)∧W.cell? ⟨T,1,none⟩=some (.slice la ls.length lc)) w3:=⟨(hb.cell (p:=⟨T,0,none⟩) (Zh hSW.1)).trans hSW.1,(hb.cell (p:=⟨T,1,none⟩) (Zh hSW.2)).trans hSW.2⟩
  have HR3:=Jh (HR1.out.below hb)
  refine ⟨_,rfl,fun _=>hS3,?_⟩
  try simp only[Ja]
  refine J2 10 10 (.tuple #[.slice none 0 0,.int .i64 0,.int .i64 41]) hS3 ?_
  try simp only[Ja]
  refine J2 11 21 (.slice none 0 0) hS3 ?_
  try simp only[Ja]
  refine J2 12 22 (.int .i64 0) hS3 ?_
  try simp only[Ja]
  refine J2 13 23 (.int .i64 41) hS3 ?_
  try simp only[Ja]
  refine J2 14 5 (.slice none 0 0) hS3 ?_
  try simp only[Ja]
  refine J2 15 6 (.int .i64 0) hS3 ?_
  try simp only[Ja]
  refine Zy (i:=16) (d:=some 7) (v:=.int .i64 41) (w':=w3) (by kernel_rfl) rfl rfl (by rfl) (by go_simp;try rfl) (fun h=>by cases h) ?_
  try simp only[Ja]
  refine Z3 (by kernel_rfl) ?_ _
  clear hS3 hSW
  have HBAD:Hid (XY ls.length c (ls,r)=none):=Jh (by unfold XY;dsimp only;rw[hdec];rfl)
  clear hdec
  go_wp2_with fail
  go_ret
  exact Or.inr ⟨HBAD.out,⟨_,_,rfl⟩,HR3.out.kp⟩
end Go.Proofs.YtgmdimbiipemhaaGreatDoor
