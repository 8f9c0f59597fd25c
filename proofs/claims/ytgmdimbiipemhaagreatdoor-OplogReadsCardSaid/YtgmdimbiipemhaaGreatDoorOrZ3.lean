/- OplogReads, part 3 of what the proof leans on (made short by a program). -/
import Derived.Test.YtgmdimbiipemhaaGreatDoorOrZ2
import Derived.Stop.Asserts
import Derived.BigQuiet
import Derived.Deep.RegionHeld3
set_option linter.unusedSimpArgs false
set_option linter.unusedVariables false
set_option linter.unusedSectionVars false
set_option maxRecDepth 20000
set_option maxHeartbeats 30000000
namespace Go.Proofs.YtgmdimbiipemhaaGreatDoor
open Go.RowKit Go.Deep
def slc (s:Sl):List Value:=[.slice s.a s.n s.cap]
theorem S0 (s:Sl):(slc s).length=1:=rfl
theorem Z0r (s:Sl):∀ u∈slc s,u.oneCell'=true:=fun u hu=>by rw[slc,List.mem_singleton] at hu;subst hu;rfl
theorem Z49 (W:World) (s:Sl):∀ j u,(slc s)[j]?=some u→(W.alloc (.cells #[.slice s.a s.n s.cap] 100)).cell? ⟨W.heap.size,j,none⟩=some u:=by
 intro j u hj
 rw[World.cell?_alloc_at _ _ _ _ rfl,←hj,slc]
 simp
theorem QE:(Tryz.prog.info? 100).map (fun i=>(i.zero,i.size,i.bytes))=some (some (.slice none 0 0),1,24):=by kernel_rfl
structure NS (w0:World) (T:Nat) (w:World) (tl:Value) (ls:List OpD) (r:List UInt8) (ca:Option Addr) (cc k:Nat) (W:World) (lo:Nat) (tb rv:Value) (L:List (List Int)) (r':List UInt8) (rs:List Sl):Prop where
 dec:ZP ls.length k r=some (L,r')
 tks:TKS w0 T W tb r' tl ls
 row:W.heap[lo]?=some (.cells #[rv] 161 (0,0))
 own:Own slc 1 100 (lo+1) W rv rs
 num:∀ i s,rs[i]?=some s→Own Zi 1 3 (lo+1) W (.slice s.a s.n s.cap) (L.getD i [])
 len:rs.length=k
 col:Own btc 1 4 (lo+1) W (.slice ca 21 cc) (WN 21)
 siz:lo+1≤W.heap.size
 apt:T<lo∧∀ b,tl.ownBlock=some b→b<lo
theorem NS.below {w0:World} {T:Nat} {w:World} {tl:Value} {ls:List OpD} {r:List UInt8} {ca:Option Addr} {cc k:Nat} {W W':World} {lo:Nat} {tb rv:Value} {L:List (List Int)} {r':List UInt8} {rs:List Sl} (h:NS w0 T w tl ls r ca cc k W lo tb rv L r' rs) (hb:Below W.heap.size W W'):NS w0 T w tl ls r ca cc k W' lo tb rv L r' rs :=
 ⟨h.dec,h.tks.below hb,(hb.block _ (by have:=h.siz;omega)).trans h.row,h.own.below1 hb,fun i s hs=>(h.num i s hs).below1 hb,h.len,h.col.below1 hb,Nat.le_trans h.siz hb.size,h.apt⟩
theorem NS.push {w0:World} {T:Nat} {w:World} {tl:Value} {ls:List OpD} {r:List UInt8} {ca:Option Addr} {cc k:Nat} {w3 w4:World} {lo:Nat} {tb tb' rv rv':Value} {L:List (List Int)} {r':List UInt8} {rs:List Sl} {l:List Int} {u:Nat} {s:Sl} {x:Obj} (h:NS w0 T w tl ls r ca cc k w3 lo tb rv L r' rs) (hn:ls.length≤65536)
  (hcd:WM ls.length (dlt k) r'=some (l,u)) (hl:Own Zi 1 3 (lo+1) w3 (.slice s.a s.n s.cap) l) (h4:Own slc 1 100 (lo+1) w4 rv' (rs++[s])) (hx:Ext (fun b=>rv.ownBlock=some b) (w3.alloc x) w4) (hbyt:Z0 u8c 1 w0 tb' (r'.drop u)) :
  NS w0 T w tl ls r ca cc (k+1) ((w4.setCell ⟨lo,0,none⟩ rv').setCell ⟨T,0,none⟩ tb') lo tb' rv' (L++[l]) (r'.drop u) (rs++[s]):=by
 have hL:=(TO hn h.dec).1
 have hxa:Ext (fun b=>rv.ownBlock=some b) w3 w4:=((Ext.refl _ _).alloc _).andThen hx (fun i hi e=>e)
 have hx5:Ext (·=lo) w4 (w4.setCell ⟨lo,0,none⟩ rv'):=(Ext.refl (·=lo) w4).setCell (p:=⟨lo,0,none⟩) (.inr rfl) _
 have hx6:Ext (·=T) (w4.setCell ⟨lo,0,none⟩ rv') ((w4.setCell ⟨lo,0,none⟩ rv').setCell ⟨T,0,none⟩ tb'):=(Ext.refl (·=T) _).setCell (p:=⟨T,0,none⟩) (.inr rfl) _
 have hTl:=h.apt.1
 have hno:∀ b,rv.ownBlock=some b→lo+1≤b:=fun b hb=>(h.own.blk b hb).1
 have hz:=hxa.size
 have hsz:=h.siz
 have hz5:(w4.setCell ⟨lo,0,none⟩ rv').heap.size=w4.heap.size:=World.size_setCell _ _ _
 have hall:Ext (fun b=>rv.ownBlock=some b∨b=lo∨b=T) w3 ((w4.setCell ⟨lo,0,none⟩ rv').setCell ⟨T,0,none⟩ tb'):=((hxa.mono (fun _ _ e=>.inl e)).andThen hx5 (fun i hi e=>.inr (.inl e))).andThen hx6 (fun i hi e=>.inr (.inr e))
 have hrow4:w4.heap[lo]?=some (.cells #[rv] 161 (0,0)):=(hxa.block _ (by omega) (fun e=>by have:=hno _ e;omega)).trans h.row
 have hT5:(w4.setCell ⟨lo,0,none⟩ rv').heap[T]?=some (.cells #[tb,tl] 90 (0,0)):=(hx5.block _ (by omega) (by omega)).trans ((hxa.block _ (by omega) (fun e=>by have:=hno _ e;omega)).trans h.tks.cell)
 have hnew:w0.heap.size≤T:=h.tks.new
 have keep:∀ {α:Type} {ea:α→List Value} {q:Nat} {t:TypeId} {v:Value} {m:List α},t≠100→Own ea q t (lo+1) w3 v m→Own ea q t (lo+1) ((w4.setCell ⟨lo,0,none⟩ rv').setCell ⟨T,0,none⟩ tb') v m:=fun ht hm=>hm.ext hall (fun b hb e=>by
  rcases e with e|e|e
  ·obtain ⟨c1,g1⟩:=hm.tag hb
   obtain ⟨c2,g2⟩:=h.own.tag e
   rw[g1] at g2
   cases g2
   exact ht rfl
  ·have:=(hm.blk b hb).1;omega
  ·have:=(hm.blk b hb).1;omega)
 refine ⟨VV h.dec hcd,⟨?_,hbyt,h.tks.own.ext hall (fun b hb e=>?_),Ext.new h.tks.bel hall (fun i hi _ e=>?_) h.tks.bel.size,hnew,h.tks.fltKeep hall (fun e=>by
  have hf:=h.tks.flt
  rcases e with e|e|e
  ·obtain ⟨c2,g2⟩:=h.own.tag e
   rw[hf] at g2
   cases g2
  ·have g2:=h.row
   rw[←e,hf] at g2
   cases g2
  ·omega)⟩,?_,(h4.ext hx5 (fun b hb e=>by have:=(h4.blk b hb).1;omega)).ext hx6 (fun b hb e=>by have:=(h4.blk b hb).1;omega),fun i s2 hs=>?_,by rw[List.length_append,h.len];rfl,keep (by decide) h.col,by have:=hall.size;omega,h.apt⟩
 ·rw[heap_setCell_same _ T 0 _ _ _ hT5]
  rfl
 ·have:=h.apt.2 b hb
  rcases e with e|e|e
  ·have:=hno b e;omega
  ·omega
  ·have hc:=h.tks.cell
   obtain ⟨c1,g1⟩:=h.tks.own.tag hb
   rw[e,hc] at g1
   cases g1
 ·rcases e with e|e|e
  ·have:=hno i e;omega
  ·omega
  ·omega
 ·exact (hx6.block _ (by omega) (by omega)).trans (one_setCell hrow4)
 ·by_cases hi:i<rs.length
  ·rw[List.getElem?_append_left hi] at hs
   have:=keep (by decide) (h.num i s2 hs)
   rwa [show (L++[l]).getD i []=L.getD i [] by rw[List.getD_eq_getElem?_getD,List.getD_eq_getElem?_getD,List.getElem?_append_left (by rw[hL,←h.len];exact hi)]]
  ·rw[List.getElem?_append_right (by omega)] at hs
   have hi2:i - rs.length=0:=by
    have:=(List.getElem?_eq_some_iff.1 hs).1
    simp at this
    omega
   rw[hi2] at hs
   cases hs
   rw[show (L++[l]).getD i []=l by rw[List.getD_eq_getElem?_getD,List.getElem?_append_right (by rw[hL,←h.len];omega),hL,←h.len,hi2];rfl]
   exact keep (by decide) hl
structure N2 (w0:World) (T:Nat) (tl:Value) (ls:List OpD) (lo:Nat) (tb rv:Value) (L:List (List Int)) (r':List UInt8) (rs:List Sl) (i:Nat) (W:World):Prop where
 tks:TKS w0 T W tb r' tl (Xf L i ls)
 row:W.heap[lo]?=some (.cells #[rv] 161 (0,0))
 own:Own slc 1 100 (lo+1) W rv rs
 num:∀ i s,rs[i]?=some s→Own Zi 1 3 (lo+1) W (.slice s.a s.n s.cap) (L.getD i [])
 siz:lo+1≤W.heap.size
theorem N2.reads {w0:World} {T:Nat} {tl:Value} {ls:List OpD} {lo:Nat} {tb rv:Value} {L:List (List Int)} {r':List UInt8} {rs:List Sl} {i:Nat} {W:World} (h:N2 w0 T tl ls lo tb rv L r' rs i W) (hr:rs.length=21) (hL:L.length=21∧∀ x∈L,x.length=ls.length) (hi:i<ls.length) :
  ∃ rb rcap,rv=.slice (some ⟨rb,0,none⟩) 21 rcap∧lo+1≤rb∧rb<W.heap.size∧∀ c,c<21→∃ sb sn sc,W.cell? ⟨rb,c,none⟩=some (.slice (some ⟨sb,0,none⟩) sn sc)∧(lo+1≤sb∧sb<W.heap.size)∧i<sn∧W.cell? ⟨sb,i,none⟩=some (.int .i64 (WR L i c)):=by
 rcases h.own.eq_slice with ⟨_,e⟩|⟨rb,rcap,e,h1,h2⟩
 ·rw[e] at hr;simp at hr
 ·rw[hr] at e
  refine ⟨rb,rcap,e,h1,h2,fun c hc=>?_⟩
  obtain ⟨s,hs⟩:∃ s,rs[c]?=some s:=⟨_,List.getElem?_eq_getElem (by omega)⟩
  have hown:=h.own
  rw[e,←hr] at hown
  have h3:=hown.cellAt S0 (i:=c) (j:=0) hs rfl
  rw[Nat.mul_one,Nat.add_zero] at h3
  have h4:=h.num c s hs
  have hLc:(L.getD c []).length=ls.length:=by
   obtain ⟨y,hy⟩:∃ y,L[c]?=some y:=⟨_,List.getElem?_eq_getElem (by omega)⟩
   rw[List.getD_eq_getElem?_getD,hy]
   exact hL.2 y (List.mem_of_getElem? hy)
  rcases h4.eq_slice with ⟨_,e4⟩|⟨sb,sc,e4,h5,h6⟩
  ·rw[e4] at hLc;simp at hLc;omega
  ·obtain ⟨x,hx⟩:∃ x,(L.getD c [])[i]?=some x:=⟨_,List.getElem?_eq_getElem (by omega)⟩
   have h7:=h4
   rw[e4] at h7
   have h8:=h7.cellAt Zf (i:=i) (j:=0) hx rfl
   rw[Nat.mul_one,Nat.add_zero] at h8
   refine ⟨sb,_,sc,by rw[h3,e4],⟨h5,h6⟩,by omega,?_⟩
   rw[h8]
   unfold WR
   rw[List.getD_eq_getElem?_getD (l:=L.getD c []),hx]
   rfl
theorem N2.ext {w0:World} {T:Nat} {tl:Value} {ls:List OpD} {lo:Nat} {tb rv:Value} {L:List (List Int)} {r':List UInt8} {rs:List Sl} {i:Nat} {W W':World} {S:Nat→Prop} (h:N2 w0 T tl ls lo tb rv L r' rs i W) (hx:Ext S W W') (hS:∀ k,S k→k<W.heap.size→False) (ha:T<lo∧∀ b,tl.ownBlock=some b→b<lo):N2 w0 T tl ls lo tb rv L r' rs i W' :=
 ⟨h.tks.ext hx (fun e=>hS _ e (by have:=h.siz;omega)) (fun k hk e=>hS k e (by have:=ha.2 k hk;have:=h.siz;omega)) (fun k hk e=>hS k e (by have:=h.tks.bel.size;omega)) (fun e=>hS _ e (Array.getElem?_eq_some_iff.1 h.tks.flt).1),(hx.block _ (by have:=h.siz;omega) (fun e=>hS _ e (by have:=h.siz;omega))).trans h.row,h.own.ext hx (fun b hb e=>hS b e (h.own.blk b hb).2),fun j s hs=>(h.num j s hs).ext hx (fun b hb e=>hS b e ((h.num j s hs).blk b hb).2),Nat.le_trans h.siz hx.size⟩
theorem N2.put {w0:World} {T g lc Bc:Nat} {ls:List OpD} {lo:Nat} {tb rv:Value} {L:List (List Int)} {r':List UInt8} {rs:List Sl} {i:Nat} {W0 W W':World} {x:OpD} (h:N2 w0 T (.slice (some ⟨g,0,none⟩) ls.length lc) ls lo tb rv L r' rs i W) (h0:N2 w0 T (.slice (some ⟨g,0,none⟩) ls.length lc) ls lo tb rv L r' rs i W0) (hx:Ext (fun k=>k=g∨k=Bc) W W') (hBc:W0.heap.size≤Bc) (hxi:ls[i]?=some x) (hA:At g (i*26) x (WR L i) W') (hR:Rst g (i*26) W W') (ha:T<lo∧∀ b,(Value.slice (some ⟨g,0,none⟩) ls.length lc).ownBlock=some b→b<lo) :
  N2 w0 T (.slice (some ⟨g,0,none⟩) ls.length lc) ls lo tb rv L r' rs (i+1) W':=by
 have hg:=ha.2 g rfl
 have h1:=h0.siz
 have hTg:T≠g:=fun e=>by
  have h1:=h.tks.cell
  obtain ⟨c2,h2⟩:=h.tks.own.tag (b:=g) rfl
  rw[e,h2] at h1
  cases h1
 have hgn:=(h.tks.own.blk g rfl).1
 have hb0:=h.tks.bel.size
 have hb1:=h0.tks.bel.size
 refine ⟨⟨(hx.block T (Array.getElem?_eq_some_iff.1 h.tks.cell).1 (fun e=>e.elim hTg (fun e=>by omega))).trans h.tks.cell,h.tks.byt,?_,Ext.new h.tks.bel hx (fun k hk _ e=>e.elim (fun e=>by omega) (fun e=>by omega)) h.tks.bel.size,h.tks.new,h.tks.fltKeep hx (fun e=>e.elim (fun e=>by
  obtain ⟨c2,h2⟩:=h.tks.own.tag (b:=g) rfl
  have h1:=h.tks.flt
  rw[e,h2] at h1
  cases h1) (fun e=>by have:=(Array.getElem?_eq_some_iff.1 h0.tks.flt).1;omega))⟩,(hx.block lo (Array.getElem?_eq_some_iff.1 h.row).1 (fun e=>e.elim (fun e=>by omega) (fun e=>by omega))).trans h.row,h.own.ext hx (fun b hb e=>by have h5:=h0.own.blk b hb;rcases e with e|e <;> omega),fun j s hs=>(h.num j s hs).ext hx (fun b hb e=>by have h5:=(h0.num j s hs).blk b hb;rcases e with e|e <;> omega),Nat.le_trans h.siz hx.size⟩
 rw[Z5a L i hxi]
 exact h.tks.own.putOp (Z42 L i hxi) hA hR
def TF (what:ByteArray) (n:Int):Value:=.iface 187 (.agg #[.string what,.iface 91 (.int .i64 n)])
theorem Z3t (w0:World) (T:Nat) (w:World) (tb tl:Value) (r:List UInt8) (ls:List OpD) (h:TKS w0 T w tb r tl ls) (hn:ls.length≤200):Calls Tryz.prog 104 #[.pointer (some ⟨T,0,none⟩)] w fun e w' =>
  (∃ L r' tb',ZP ls.length 21 r=some (L,r')∧e=.returned .nilIface∧TKS w0 T w' tb' r' tl (Xf L ls.length ls))∨(ZP ls.length 21 r=none∧(∃ s m,e=.returned (TF s m))∧Kp w0 T w'):=by
 obtain ⟨⟨la,ln,lc⟩,el⟩:=h.own.sl
 dsimp only at el
 subst el
 obtain rfl:ln=ls.length:=(h.own.nlen OpD.len).1
 have HT:=Lib.hid h
 have hTl:=(Array.getElem?_eq_some_iff.1 h.cell).1
 have hLl:=fun b hb=>(h.own.blk b hb).2
 clear h
 go_enter Tryz.func104,Tryz.ntmps104
 go_wp2_with fail
 obtain ⟨lo,hlo⟩:∃ lo,lo=w.heap.size:=⟨_,rfl⟩
 rw[←hlo]
 have HLO:=Lib.hid hlo
 refine (Q0 _).mono ?_
 rintro e w5 ⟨v5,rfl,hown5,b5⟩
 obtain ⟨⟨ca,cn,cc⟩,e5⟩:=hown5.sl
 dsimp only at e5
 subst e5
 obtain rfl:cn=21:=by have:=(hown5.nlen Y3).1;rw[SS] at this;exact this
 have HS0:Hid (NS w0 T w (.slice la ls.length lc) ls r ca cc 0 w5 lo tb (.slice none 0 0) [] r []):=Jh (by
  have hz:lo+1≤(w.alloc (.cells #[.slice none 0 0] 161)).heap.size:=by rw[World.size_alloc];omega
  refine ⟨rfl,?_,?_,Own.nil,fun i s hs=>by simp at hs,rfl,hown5.mono hz,Nat.le_trans hz b5.size,by omega,fun b hb=>by have:=hLl b hb;omega⟩
  ·exact TKS.below (HT.out.ext ((Ext.refl (fun _=>False) w).alloc _) id (fun _ _=>id) (fun _ _=>id) id) b5
  ·exact (b5.block _ (by omega)).trans (by rw[hlo];exact ZK w _))
 clear hown5 b5 hlo hTl hLl
 go_wp2_with fail
 go_loopg [14] 21 (fun g kv wx=>∃ (k:Nat) (tb rv:Value) (L:List (List Int)) (r2:List UInt8) (rs:List Sl),g=21 - k∧kv=.int .i64 k∧k≤21∧Hid (NS w0 T w (.slice la ls.length lc) ls r ca cc k wx lo tb rv L r2 rs))
 case atStart=>exact ⟨0,_,_,_,_,_,rfl,rfl,by omega,HS0⟩
 case round =>
  clear HS0
  obtain ⟨k,tb1,rv,L,r2,rs,hg,rfl,hk,HR⟩:=hrel
  have HG:=Lib.hid hg
  clear hg
  by_cases hlt:k<21
  ·have hk1:(k:Int)<21:=by omega
   obtain ⟨b9,o9,e9,c9⟩:=(HR.out.col.slice Y3).at1 (k:=k) (x:=dlt k) (by simp[WN,hlt]) rfl
   cases e9
   obtain ⟨ta,tcap,rfl,htc,htm,-⟩:=id HR.out.tks.byt
   unfold maxLen at htm
   have hc0:=HR.out.tks.cell
   have HB:=Lib.hid HR.out.tks.bytes
   have hSW:(fun W:World=>W.cell? ⟨T,0,none⟩=some (.slice ta r2.length tcap)∧W.cell? ⟨T,1,none⟩=some (.slice la ls.length lc)) wr.drew:=⟨by show World.cell? wr _=_;simp[World.cell?,hc0],by show World.cell? wr _=_;simp[World.cell?,hc0]⟩
   clear hc0
   cases hd:dlt k with
   | false =>
    have hcd:WM ls.length (dlt k) r2=YT ls.length none r2:=by unfold WM;rw[hd];rfl
    have HCD:=Lib.hid hcd
    rw[hd] at c9
    clear hd hcd
    go_upto_region 8 with fail
    clear c9
    refine Z7 (fun W:World=>W.cell? ⟨T,0,none⟩=some (.slice ta r2.length tcap)∧W.cell? ⟨T,1,none⟩=some (.slice la ls.length lc)) (fun i=>i == 17) (by kernel_rfl) ?_
    have HR1:Hid (NS w0 T w (.slice la ls.length lc) ls r _ cc k wr.drew lo (.slice ta r2.length tcap) rv L r2 rs):=Jh (HR.out.below (Below.refl _ _).drew)
    have HB1:Hid (Z0 u8c 1 wr.drew (.slice ta r2.length tcap) r2):=Jh (HR1.out.tks.bytes)
    generalize wr.drew=W1 at hSW HR1 HB1 ⊢
    refine J2 0 20 _ hSW ?_
    try simp only[Ja]
    refine J2 1 21 _ hSW ?_
    try simp only[Ja]
    refine J2 2 22 (.pointer (some ⟨T,0,none⟩)) hSW ?_
    try simp only[Ja]
    refine J2 3 23 (.pointer (some ⟨T,0,none⟩)) hSW ?_
    try simp only[Ja]
    refine J2 4 24 (.slice ta r2.length tcap) hSW ?_
    try simp only[Ja]
    refine J2 5 25 _ hSW ?_
    try simp only[Ja]
    refine J2 6 26 (.pointer (some ⟨T,0,none⟩)) hSW ?_
    try simp only[Ja]
    refine J2 7 27 (.pointer (some ⟨T,1,none⟩)) hSW ?_
    try simp only[Ja]
    refine J2 8 28 (.slice la ls.length lc) hSW ?_
    try simp only[Ja]
    refine J2 9 29 (.int .i64 ls.length) hSW ?_
    try simp only[Ja]
    refine Zm (i:=10) (d:=some 30) (f:=153) (args:=#[.slice ta r2.length tcap,.int .i64 ls.length]) (w':=W1) (by kernel_rfl) rfl rfl (by rfl) (by go_simp;try rfl) ?_
    refine (Tb _ r2 ls.length _ HB1.out (by omega)).mono ?_
    rintro e w3 (⟨l,u,v,hdec,rfl,hown,hb⟩|⟨hdec,rfl,hb⟩)
    ·have hS3:(fun W:World=>W.cell? ⟨T,0,none⟩=some (.slice ta r2.length tcap)∧W.cell? ⟨T,1,none⟩=some (.slice la ls.length lc)) w3:=⟨(hb.cell (p:=⟨T,0,none⟩) (Zu hSW.1)).trans hSW.1,(hb.cell (p:=⟨T,1,none⟩) (Zu hSW.2)).trans hSW.2⟩
     have HR3:=Jh (HR1.out.below hb)
     refine ⟨_,rfl,fun _=>hS3,?_⟩
     try simp only[Ja]
     refine J2 11 19 (.tuple #[v,.int .i64 (u:Nat),.int .i64 0]) hS3 ?_
     try simp only[Ja]
     refine J2 12 31 v hS3 ?_
     try simp only[Ja]
     refine J2 13 32 (.int .i64 (u:Nat)) hS3 ?_
     try simp only[Ja]
     refine J2 14 33 (.int .i64 0) hS3 ?_
     try simp only[Ja]
     refine J2 15 7 v hS3 ?_
     try simp only[Ja]
     refine J2 16 8 (.int .i64 (u:Nat)) hS3 ?_
     try simp only[Ja]
     refine Zj (i:=17) (d:=some 9) (v:=.int .i64 0) (w':=w3) (by kernel_rfl) rfl rfl (by rfl) (by go_simp;try rfl) (fun h=>by cases h) ?_
     try simp only[Ja]
     refine Z3 (by kernel_rfl) ?_ _
     clear hS3 hSW
     have HDEC:=Jh (HCD.out.trans hdec)
     clear hdec
     have hcf:=Vb (by omega) HDEC.out
     have hul:=hcf.2
     obtain ⟨⟨pa,pn,pc⟩,ep⟩:=hown.sl
     dsimp only at ep
     subst ep
     obtain ⟨⟨va,vn,vc⟩,ev⟩:=HR3.out.own.sl
     dsimp only at ev
     subst ev
     have HOWN:Hid (Own Zi 1 3 (lo+1) w3 (.slice pa pn pc) l):=Jh (hown.mono HR1.out.siz)
     obtain ⟨a1,c1,hsl,hS1,-⟩:=ZJ (P:=Tryz.prog) (ea:=u8c) Tryz.underlying22 Zh ta r2.length tcap u htc hul
     have HBY:=Jh (hS1 w0 r2 rfl HR3.out.tks.byt)
     obtain ⟨i0,hi,hy0,hy1,hy2⟩:=info_parts QE
     have HBD:Hid (rs.length+1≤maxLen∧(rs.length+1)*24≤140737488355328):=Jh (by rw[HR3.out.len];unfold maxLen;omega)
     have c0:=cell_of_one HR3.out.row
     have hne:¬ T=lo:=by have:=HR3.out.apt.1;omega
     clear hown hcf hS1
     go_wp2_with (at_builtin;refine ZI rfl _ _ _ rfl i0 _ 24 Tryz.underlying161 hi hy0 hy1 hy2 rfl (by omega) S0 Z0r rfl (HR3.out.own.alloc _) (⟨pa,pn,pc⟩:Sl) w3.heap.size 1 rfl (Z49 _ ⟨pa,pn,pc⟩) HBD.out.1 HBD.out.2 (by have:=HR3.out.siz;simp;omega) ?_)
     intro v' w4 hown4 hx4 hn4
     obtain ⟨⟨ua,un,uc⟩,e4⟩:=hown4.sl
     dsimp only at e4
     subst e4
     have hxa:Ext (fun b=>(Value.slice va vn vc).ownBlock=some b) w3 w4:=((Ext.refl _ _).alloc _).andThen hx4 (fun i hi e=>e)
     have g4:w4.heap[lo]?=some (.cells #[.slice va vn vc] 161 (0,0)):=(hxa.block _ (by have:=HR3.out.siz;omega) (fun e=>by have:=(HR3.out.own.blk _ e).1;omega)).trans HR3.out.row
     have gT:w4.heap[T]?=some (.cells #[.slice ta r2.length tcap,.slice la ls.length lc] 90 (0,0)):=(hxa.block _ (by have:=HR3.out.siz;have:=HR3.out.apt.1;omega) (fun e=>by have:=(HR3.out.own.blk _ e).1;have:=HR3.out.apt.1;omega)).trans HR3.out.tks.cell
     have c4:=cell_of_one g4
     have f4:=free_of_one g4
     have cT:w4.cell? ⟨T,0,none⟩=some (.slice ta r2.length tcap):=by simp[World.cell?,gT]
     have fT:w4.frozen? ⟨T,0,none⟩=false:=by simp[World.frozen?,gT]
     have HN:=Jh (HR3.out.push (by omega) HDEC.out HOWN.out hown4 hx4 HBY.out)
     clear hown4 hx4 hn4 hxa g4 gT HOWN HBY c0
     go_wp2_with fail
     go_roundg (21 - (k+1))
     case measure=>rw[HG.out];omega
     case rel=>exact ⟨k+1,_,_,_,_,_,rfl,by simp,by omega,HN⟩
    ·have hS3:(fun W:World=>W.cell? ⟨T,0,none⟩=some (.slice ta r2.length tcap)∧W.cell? ⟨T,1,none⟩=some (.slice la ls.length lc)) w3:=⟨(hb.cell (p:=⟨T,0,none⟩) (Zu hSW.1)).trans hSW.1,(hb.cell (p:=⟨T,1,none⟩) (Zu hSW.2)).trans hSW.2⟩
     have HR3:=Jh (HR1.out.below hb)
     refine ⟨_,rfl,fun _=>hS3,?_⟩
     try simp only[Ja]
     refine J2 11 19 (.tuple #[.slice none 0 0,.int .i64 0,.int .i64 41]) hS3 ?_
     try simp only[Ja]
     refine J2 12 31 (.slice none 0 0) hS3 ?_
     try simp only[Ja]
     refine J2 13 32 (.int .i64 0) hS3 ?_
     try simp only[Ja]
     refine J2 14 33 (.int .i64 41) hS3 ?_
     try simp only[Ja]
     refine J2 15 7 (.slice none 0 0) hS3 ?_
     try simp only[Ja]
     refine J2 16 8 (.int .i64 0) hS3 ?_
     try simp only[Ja]
     refine Zj (i:=17) (d:=some 9) (v:=.int .i64 41) (w':=w3) (by kernel_rfl) rfl rfl (by rfl) (by go_simp;try rfl) (fun h=>by cases h) ?_
     try simp only[Ja]
     refine Z3 (by kernel_rfl) ?_ _
     clear hS3 hSW
     have HBAD:Hid (ZP ls.length 21 r=none):=Jh (Vh HR3.out.dec (HCD.out.trans hdec) hlt)
     clear hdec
     go_wp2_with fail
     go_ret
     exact .inr ⟨HBAD.out,⟨_,_,rfl⟩,HR3.out.tks.kp⟩
   | true =>
    have hcd:WM ls.length (dlt k) r2=VT ls.length r2:=by unfold WM;rw[hd];rfl
    have HCD:=Lib.hid hcd
    rw[hd] at c9
    clear hd hcd
    go_upto_region 8 with fail
    clear c9
    refine Z7 (fun W:World=>W.cell? ⟨T,0,none⟩=some (.slice ta r2.length tcap)∧W.cell? ⟨T,1,none⟩=some (.slice la ls.length lc)) (fun i=>i == 17) (by kernel_rfl) ?_
    have HR1:Hid (NS w0 T w (.slice la ls.length lc) ls r _ cc k wr.drew lo (.slice ta r2.length tcap) rv L r2 rs):=Jh (HR.out.below (Below.refl _ _).drew)
    have HB1:Hid (Z0 u8c 1 wr.drew (.slice ta r2.length tcap) r2):=Jh (HR1.out.tks.bytes)
    generalize wr.drew=W1 at hSW HR1 HB1 ⊢
    refine J2 0 20 _ hSW ?_
    try simp only[Ja]
    refine J2 1 21 _ hSW ?_
    try simp only[Ja]
    refine J2 2 22 (.pointer (some ⟨T,0,none⟩)) hSW ?_
    try simp only[Ja]
    refine J2 3 23 (.pointer (some ⟨T,0,none⟩)) hSW ?_
    try simp only[Ja]
    refine J2 4 24 (.slice ta r2.length tcap) hSW ?_
    try simp only[Ja]
    refine J2 5 25 _ hSW ?_
    try simp only[Ja]
    refine J2 6 26 (.pointer (some ⟨T,0,none⟩)) hSW ?_
    try simp only[Ja]
    refine J2 7 27 (.pointer (some ⟨T,1,none⟩)) hSW ?_
    try simp only[Ja]
    refine J2 8 28 (.slice la ls.length lc) hSW ?_
    try simp only[Ja]
    refine J2 9 29 (.int .i64 ls.length) hSW ?_
    try simp only[Ja]
    refine Zm (i:=10) (d:=some 30) (f:=154) (args:=#[.slice ta r2.length tcap,.int .i64 ls.length]) (w':=W1) (by kernel_rfl) rfl rfl (by rfl) (by go_simp;try rfl) ?_
    refine (Z0K _ r2 ls.length _ HB1.out (by omega)).mono ?_
    rintro e w3 (⟨l,u,v,hdec,rfl,hown,hb⟩|⟨hdec,rfl,hb⟩)
    ·have hS3:(fun W:World=>W.cell? ⟨T,0,none⟩=some (.slice ta r2.length tcap)∧W.cell? ⟨T,1,none⟩=some (.slice la ls.length lc)) w3:=⟨(hb.cell (p:=⟨T,0,none⟩) (Zu hSW.1)).trans hSW.1,(hb.cell (p:=⟨T,1,none⟩) (Zu hSW.2)).trans hSW.2⟩
     have HR3:=Jh (HR1.out.below hb)
     refine ⟨_,rfl,fun _=>hS3,?_⟩
     try simp only[Ja]
     refine J2 11 19 (.tuple #[v,.int .i64 (u:Nat),.int .i64 0]) hS3 ?_
     try simp only[Ja]
     refine J2 12 31 v hS3 ?_
     try simp only[Ja]
     refine J2 13 32 (.int .i64 (u:Nat)) hS3 ?_
     try simp only[Ja]
     refine J2 14 33 (.int .i64 0) hS3 ?_
     try simp only[Ja]
     refine J2 15 7 v hS3 ?_
     try simp only[Ja]
     refine J2 16 8 (.int .i64 (u:Nat)) hS3 ?_
     try simp only[Ja]
     refine Zj (i:=17) (d:=some 9) (v:=.int .i64 0) (w':=w3) (by kernel_rfl) rfl rfl (by rfl) (by go_simp;try rfl) (fun h=>by cases h) ?_
     try simp only[Ja]
     refine Z3 (by kernel_rfl) ?_ _
     clear hS3 hSW
     have HDEC:=Jh (HCD.out.trans hdec)
     clear hdec
     have hcf:=Vb (by omega) HDEC.out
     have hul:=hcf.2
     obtain ⟨⟨pa,pn,pc⟩,ep⟩:=hown.sl
     dsimp only at ep
     subst ep
     obtain ⟨⟨va,vn,vc⟩,ev⟩:=HR3.out.own.sl
     dsimp only at ev
     subst ev
     have HOWN:Hid (Own Zi 1 3 (lo+1) w3 (.slice pa pn pc) l):=Jh (hown.mono HR1.out.siz)
     obtain ⟨a1,c1,hsl,hS1,-⟩:=ZJ (P:=Tryz.prog) (ea:=u8c) Tryz.underlying22 Zh ta r2.length tcap u htc hul
     have HBY:=Jh (hS1 w0 r2 rfl HR3.out.tks.byt)
     obtain ⟨i0,hi,hy0,hy1,hy2⟩:=info_parts QE
     have HBD:Hid (rs.length+1≤maxLen∧(rs.length+1)*24≤140737488355328):=Jh (by rw[HR3.out.len];unfold maxLen;omega)
     have c0:=cell_of_one HR3.out.row
     have hne:¬ T=lo:=by have:=HR3.out.apt.1;omega
     clear hown hcf hS1
     go_wp2_with (at_builtin;refine ZI rfl _ _ _ rfl i0 _ 24 Tryz.underlying161 hi hy0 hy1 hy2 rfl (by omega) S0 Z0r rfl (HR3.out.own.alloc _) (⟨pa,pn,pc⟩:Sl) w3.heap.size 1 rfl (Z49 _ ⟨pa,pn,pc⟩) HBD.out.1 HBD.out.2 (by have:=HR3.out.siz;simp;omega) ?_)
     intro v' w4 hown4 hx4 hn4
     obtain ⟨⟨ua,un,uc⟩,e4⟩:=hown4.sl
     dsimp only at e4
     subst e4
     have hxa:Ext (fun b=>(Value.slice va vn vc).ownBlock=some b) w3 w4:=((Ext.refl _ _).alloc _).andThen hx4 (fun i hi e=>e)
     have g4:w4.heap[lo]?=some (.cells #[.slice va vn vc] 161 (0,0)):=(hxa.block _ (by have:=HR3.out.siz;omega) (fun e=>by have:=(HR3.out.own.blk _ e).1;omega)).trans HR3.out.row
     have gT:w4.heap[T]?=some (.cells #[.slice ta r2.length tcap,.slice la ls.length lc] 90 (0,0)):=(hxa.block _ (by have:=HR3.out.siz;have:=HR3.out.apt.1;omega) (fun e=>by have:=(HR3.out.own.blk _ e).1;have:=HR3.out.apt.1;omega)).trans HR3.out.tks.cell
     have c4:=cell_of_one g4
     have f4:=free_of_one g4
     have cT:w4.cell? ⟨T,0,none⟩=some (.slice ta r2.length tcap):=by simp[World.cell?,gT]
     have fT:w4.frozen? ⟨T,0,none⟩=false:=by simp[World.frozen?,gT]
     have HN:=Jh (HR3.out.push (by omega) HDEC.out HOWN.out hown4 hx4 HBY.out)
     clear hown4 hx4 hn4 hxa g4 gT HOWN HBY c0
     go_wp2_with fail
     go_roundg (21 - (k+1))
     case measure=>rw[HG.out];omega
     case rel=>exact ⟨k+1,_,_,_,_,_,rfl,by simp,by omega,HN⟩
    ·have hS3:(fun W:World=>W.cell? ⟨T,0,none⟩=some (.slice ta r2.length tcap)∧W.cell? ⟨T,1,none⟩=some (.slice la ls.length lc)) w3:=⟨(hb.cell (p:=⟨T,0,none⟩) (Zu hSW.1)).trans hSW.1,(hb.cell (p:=⟨T,1,none⟩) (Zu hSW.2)).trans hSW.2⟩
     have HR3:=Jh (HR1.out.below hb)
     refine ⟨_,rfl,fun _=>hS3,?_⟩
     try simp only[Ja]
     refine J2 11 19 (.tuple #[.slice none 0 0,.int .i64 0,.int .i64 41]) hS3 ?_
     try simp only[Ja]
     refine J2 12 31 (.slice none 0 0) hS3 ?_
     try simp only[Ja]
     refine J2 13 32 (.int .i64 0) hS3 ?_
     try simp only[Ja]
     refine J2 14 33 (.int .i64 41) hS3 ?_
     try simp only[Ja]
     refine J2 15 7 (.slice none 0 0) hS3 ?_
     try simp only[Ja]
     refine J2 16 8 (.int .i64 0) hS3 ?_
     try simp only[Ja]
     refine Zj (i:=17) (d:=some 9) (v:=.int .i64 41) (w':=w3) (by kernel_rfl) rfl rfl (by rfl) (by go_simp;try rfl) (fun h=>by cases h) ?_
     try simp only[Ja]
     refine Z3 (by kernel_rfl) ?_ _
     clear hS3 hSW
     have HBAD:Hid (ZP ls.length 21 r=none):=Jh (Vh HR3.out.dec (HCD.out.trans hdec) hlt)
     clear hdec
     go_wp2_with fail
     go_ret
     exact .inr ⟨HBAD.out,⟨_,_,rfl⟩,HR3.out.tks.kp⟩
  ·obtain rfl:k=21:=by omega
   have hk1:¬ (21:Int)<21:=by omega
   have hc0:=HR.out.tks.cell
   have c1:wr.cell? ⟨T,1,none⟩=some (.slice la ls.length lc):=by simp[World.cell?,hc0]
   have HN0:Hid (N2 w0 T (.slice la ls.length lc) ls lo tb1 rv L r2 rs 0 wr):=Lib.hid ⟨by rw[Z5h];exact HR.out.tks,HR.out.row,HR.out.own,HR.out.num,HR.out.siz⟩
   have HF:Hid (ZP ls.length 21 r=some (L,r2)∧rs.length=21∧T<lo∧(∀ b,(Value.slice la ls.length lc).ownBlock=some b→b<lo)):=Lib.hid ⟨HR.out.dec,HR.out.len,HR.out.apt⟩
   clear hc0 hk hlt HR
   go_wp2_with fail
   clear c1
   go_loopg [59] ls.length (fun g kv wx=>∃ i:Nat,g=ls.length - i∧kv=.int .i64 i∧i≤ls.length∧Hid (N2 w0 T (.slice la ls.length lc) ls lo tb1 rv L r2 rs i wx))
   case atStart=>exact ⟨0,rfl,rfl,by omega,HN0⟩
   case round =>
    clear HN0
    obtain ⟨i,hg,rfl,hk,HR⟩:=hrel
    have HG:=Lib.hid hg
    clear hg
    by_cases hlt:i<ls.length
    ·have hk1:(i:Int)<(ls.length:Int):=by omega
     go_upto_region 18 with fail
     obtain ⟨x,hx⟩:∃ x,ls[i]?=some x:=⟨_,List.getElem?_eq_getElem hlt⟩
     have HX:=Lib.hid hx
     obtain ⟨g,cap,e,hg1,hg2⟩:=HR.out.tks.own.eq_slice.resolve_left (fun e=>by have h2:=e.2;have h3:=Ub L i ls;rw[h2] at h3;simp at h3;omega)
     injection e with e1 e2 e3
     subst e1 e3
     clear e2
     have hgl:g<lo:=HF.out.2.2.2 g rfl
     have hc0:=HR.out.tks.cell
     have hsz:=HR.out.siz
     have hTl:=HF.out.2.2.1
     have hi0:(0:Int)≤(i:Int):=by omega
     have HNR:=Jh (HR.out.reads HF.out.2.1 (TO (by omega) HF.out.1) hlt)
     obtain ⟨W1,hW1⟩:=Je ((wr.alloc (.cells #[.int .i64 i] 3)).alloc (.cells #[.int .i64 0] 3))
     have hz1:W1.heap.size=wr.heap.size+2:=by rw[←hW1];simp
     have hx1:Ext (fun _=>False) wr W1:=by rw[←hW1];exact ((Ext.refl _ _).alloc _).alloc _
     have hBi:W1.heap[wr.heap.size]?=some (.cells #[.int .i64 i] 3 (0,0)):=by rw[←hW1];exact (Below.heap_alloc _ _ _ (by simp)).trans (ZK wr _)
     have hBc:W1.heap[wr.heap.size+1]?=some (.cells #[.int .i64 0] 3 (0,0)):=by
      rw[←hW1]
      have:=ZK (wr.alloc (.cells #[.int .i64 i] 3)) (.cells #[.int .i64 0] 3)
      rwa [World.size_alloc] at this
     rw[hW1]
     clear hW1
     have hSW:(fun W:World=>W.cell? ⟨T,1,none⟩=some (.slice (some ⟨g,0,none⟩) ls.length lc)∧W.cell? ⟨wr.heap.size,0,none⟩=some (.int .i64 i)) W1.drew:=⟨by show World.cell? W1 _=_;simp[World.cell?,(hx1.block T (by omega) id).trans hc0],cell_of_one hBi⟩
     refine Z7 (fun W:World=>W.cell? ⟨T,1,none⟩=some (.slice (some ⟨g,0,none⟩) ls.length lc)∧W.cell? ⟨wr.heap.size,0,none⟩=some (.int .i64 i)) (fun _=>false) (by kernel_rfl) ?_
     have hxd:Ext (fun _=>False) W1 W1.drew:=(Ext.refl _ _).drew
     have HW:=Jh (And.intro hz1 (And.intro hx1 (And.intro hBi (And.intro hBc hxd))))
     clear hz1 hx1 hBi hBc hxd hc0
     have hz:W1.drew.heap.size=W1.heap.size:=rfl
     generalize hWd:W1.drew=W2 at hSW HW hz ⊢
     have HX1:Hid (Ext (fun _=>False) wr W2∧W2.heap.size=wr.heap.size+2∧W2.heap[wr.heap.size]?=some (.cells #[.int .i64 i] 3 (0,0))∧W2.heap[wr.heap.size+1]?=some (.cells #[.int .i64 0] 3 (0,0))):=Jh (by
      have h:=HW.out
      refine ⟨h.2.1.andThen h.2.2.2.2 (fun _ _ f=>f),hz.trans h.1,(h.2.2.2.2.block _ (by omega) id).trans h.2.2.1,(h.2.2.2.2.block _ (by omega) id).trans h.2.2.2.1⟩)
     clear hWd HW hz
     refine J2 0 62 _ hSW ?_
     try simp only[Ja]
     refine J2 1 63 (.pointer (some ⟨T,0,none⟩)) hSW ?_
     try simp only[Ja]
     refine J2 2 64 (.pointer (some ⟨T,1,none⟩)) hSW ?_
     try simp only[Ja]
     refine J2 3 65 (.slice (some ⟨g,0,none⟩) ls.length lc) hSW ?_
     try simp only[Ja]
     refine J2 4 66 (.int .i64 i) hSW ?_
     try simp only[Ja]
     refine J2 5 67 (.pointer (some ⟨g,i*26,none⟩)) hSW ?_
     try simp only[Ja]
     refine J2 6 68 (.func (.func 155) #[] #[.pointer (some ⟨lo,0,none⟩),.pointer (some ⟨wr.heap.size+1,0,none⟩),.pointer (some ⟨wr.heap.size,0,none⟩)]) hSW ?_
     try simp only[Ja]
     obtain ⟨rb,rcap,erv,rb1,rb2,hrow⟩:=HNR.out
     have hbe:Ext (fun _=>False) wr W2:=HX1.out.1
     have hz2:=HX1.out.2.1
     have hN:NR W2 lo (wr.heap.size+2) lo wr.heap.size rb rcap i (WR L i) (wr.heap.size+1) :=
      ⟨by rw[←erv];exact cell_of_one ((hbe.block _ (by omega) id).trans HR.out.row),cell_of_one HX1.out.2.2.1,fun c hc=>by
       obtain ⟨sb,sn,sc,q1,q2,q3,q4⟩:=hrow c hc
       exact ⟨sb,sn,sc,hbe.keep q1 id,⟨by omega,by omega,by omega⟩,q3,hbe.keep q4 id⟩,⟨⟨Nat.le_refl _,by omega,by omega⟩,⟨by omega,by omega,by omega⟩,⟨by omega,by omega,by omega⟩,by omega,by omega⟩⟩
     have hJ0:JN W2 lo (wr.heap.size+2) (wr.heap.size+1) 0 (fun k=>k<lo) W2:=⟨fun k hk=>.inl hk,fun _ _ _ _=>rfl,HX1.out.2.2.2,by omega,by omega,by omega⟩
     have hN2:=HR.out.ext hbe (fun _ f=>f.elim) HF.out.2.2
     have hown3:=hN2.tks.own
     rw[show ls.length=(Xf L i ls).length from (Ub L i ls).symm] at hown3
     have hAt:At g (i*26) x (fld x) W2:=At.of_cells (fun j u hj=>hown3.cellAt OpD.len (Z42 L i HX.out) hj) (fun j _=>hown3.free _)
     refine Zm (i:=7) (d:=some 69) (f:=92) (args:=#[.pointer (some ⟨g,i*26,none⟩),.func (.func 155) #[] #[.pointer (some ⟨lo,0,none⟩),.pointer (some ⟨wr.heap.size+1,0,none⟩),.pointer (some ⟨wr.heap.size,0,none⟩)]]) (w':=W2) (by kernel_rfl) rfl rfl (by rfl) (by go_simp;try rfl) ?_
     refine (Qg (enters_of Tryz.func155 (by kernel_rfl) rfl) g (i*26) x (WR L i) (JN W2 lo (wr.heap.size+2) (wr.heap.size+1)) (fun k=>k<lo) W2 (Z64 hN (fld x)) (JN.jok _ _ _ _ _) hgl hAt hJ0).mono ?_
     rintro e w3 ⟨⟨v3,rfl⟩,hJ,hA3,hx3,hR3⟩
     have hxx:Ext (fun k=>k=g∨k=wr.heap.size+1) W2 w3:=⟨hx3.os,hx3.tape,hx3.output,hx3.size,fun k hk hn=>by
      by_cases h:k<lo
      ·exact hx3.block k hk (fun e=>e.elim (fun e=>e h) (fun e=>hn (.inl e)))
      ·exact hJ.2.1 k (by omega) (by omega) (fun e=>hn (.inr e))⟩
     have HN:Hid (N2 w0 T (.slice (some ⟨g,0,none⟩) ls.length lc) ls lo tb1 rv L r2 rs (i+1) w3):=Jh (hN2.put HR.out hxx (by omega) HX.out hA3 hR3 HF.out.2.2)
     refine ⟨_,rfl,fun _=>⟨hxx.keep hSW.1 (fun e=>e.elim (fun e=>?_) (fun e=>by omega)),hxx.keep hSW.2 (fun e=>by omega)⟩,?_⟩
     ·have h1:=hN2.tks.cell
      obtain ⟨c2,h2⟩:=hN2.tks.own.tag (b:=g) rfl
      rw[e,h2] at h1
      cases h1
     try simp only[Ja]
     refine Z3 (by kernel_rfl) ?_ _
     clear hxx hx3 hJ hA3 hR3 hAt hown3 hN2 hJ0 hN hbe hrow hSW HX1 HNR HR
     go_wp2_with fail
     go_roundg (ls.length - (i+1))
     case measure=>rw[HG.out];omega
     case rel=>exact ⟨i+1,rfl,by simp,by omega,HN⟩
    ·obtain rfl:i=ls.length:=by omega
     have hk1:¬ (ls.length:Int)<(ls.length:Int):=by omega
     go_wp2_with fail
     go_ret
     exact .inl ⟨_,_,HF.out.1,rfl,_,HR.out.tks⟩
end Go.Proofs.YtgmdimbiipemhaaGreatDoor
namespace Go.Proofs.YtgmdimbiipemhaaGreatDoor
open Go.RowKit Go.Extern.Stop Go.Stop Go.Extern
theorem Z7Z (t:Value) (w:World) :
  Calls Tryz.prog 52 #[.nilIface,t] w fun e w'=>e=.returned (.bool false)∧w'=w:=by
 go_enter Tryz.func52,Tryz.ntmps52
 go_wp2
 go_ret
 exact ⟨rfl,rfl⟩
theorem Tryz.valueOfP (t:Addr) (w:World):(ReflectliteValue.unpack (.iface 96 (.pointer (some t)))).run Tryz.prog w
  = .ok (.agg #[.pointer (some ⟨5,96,none⟩),.pointer (some ⟨w.heap.size,0,none⟩),.int .u64 150]) (w.alloc (.cells #[.pointer (some t)] 96)):=by kernel_rfl
theorem Tryz.typeP (a : Addr) (w : World) : (ReflectliteValue.methodAny (ReflectliteValue.valueError "reflectlite.Value.Type" 0) (fun t _ _ _ => ReflectliteType.toType t) #[.agg #[.pointer (some ⟨5, 96, none⟩), .pointer (some a), .int .u64 150]]).run Tryz.prog w
  = .ok (.iface 234 (.agg #[.pointer (some ⟨5,96,none⟩)])) w:=by kernel_rfl
theorem Tryz.kindP (w:World):((ReflectliteType.abiMethod fun t=>(fun a:Nat=>Value.int IntKind.u8 (a:Int)) <$> Rtype.kind t) #[.pointer (some ⟨5,96,none⟩)]).run Tryz.prog w=.ok (.int .u8 22) w:=by kernel_rfl
theorem Tryz.kindF (w:World):((ReflectliteType.abiMethod fun t=>(fun a:Nat=>Value.int IntKind.u8 (a:Int)) <$> Rtype.kind t) #[.pointer (some ⟨5,91,none⟩)]).run Tryz.prog w=.ok (.int .u8 2) w:=by kernel_rfl
theorem rlm (z:Sem Value) (f:TypeId→Addr→Nat→Nat→Sem Value) (v:Value) :
  ReflectliteValue.method z f #[v]=(do match ←ReflectliteValue.parts v with|none=>z|some (t,a,fl)=>f t a fl (fl % 32)):=rfl
theorem Tryz.partsP (a:Addr) (w:World):(ReflectliteValue.parts (.agg #[.pointer (some ⟨5,96,none⟩),.pointer (some a),.int .u64 150])).run Tryz.prog w=.ok (some (96,a,150)) w:=by kernel_rfl
theorem Tryz.isNilP (a p:Addr) (W:World) (ha:W.cell? a=some (.pointer (some p))) :
  (ReflectliteValue.method (ReflectliteValue.valueError "reflectlite.Value.IsNil" 0) ReflectliteValue.isNil #[.agg #[.pointer (some ⟨5, 96, none⟩), .pointer (some a), .int .u64 150]]).run Tryz.prog W = .ok (.bool false) W := by
 rw[rlm]
 simp only[Sem.run_bind,Tryz.partsP,Result.andThen]
 simp[ReflectliteValue.isNil,loadVar,isAgg,underlying,Tryz.underlying96,ha,Result.andThen]
theorem Tryz.elemP (w:World):(ReflectliteType.method ReflectliteType.elem #[.agg #[.pointer (some ⟨5,96,none⟩)]]).run Tryz.prog w=.ok (.iface 234 (.agg #[.pointer (some ⟨5,91,none⟩)])) w:=by kernel_rfl
theorem Tryz.implementsF (w : World) : (ReflectliteType.relation "Implements" ReflectliteType.implements_ #[.agg #[.pointer (some ⟨5, 91, none⟩)], .iface 234 (.agg #[.pointer (some ⟨5, 94, none⟩)])]).run Tryz.prog w = .ok (.bool true) w := by kernel_rfl
theorem Tryz.typeOfA (v:Value) (w:World):(ReflectliteType.typeOf #[.iface 187 v]).run Tryz.prog w=.ok (.iface 234 (.agg #[.pointer (some ⟨5,187,none⟩)])) w:=by kernel_rfl
theorem Tryz.typeOfF (v:Value) (w:World):(ReflectliteType.typeOf #[.iface 91 v]).run Tryz.prog w=.ok (.iface 234 (.agg #[.pointer (some ⟨5,91,none⟩)])) w:=by kernel_rfl
theorem Tryz.assignableA (w : World) : (ReflectliteType.relation "AssignableTo" ReflectliteType.assignableTo #[.agg #[.pointer (some ⟨5, 187, none⟩)], .iface 234 (.agg #[.pointer (some ⟨5, 91, none⟩)])]).run Tryz.prog w = .ok (.bool false) w := by kernel_rfl
theorem Tryz.assignableF (w : World) : (ReflectliteType.relation "AssignableTo" ReflectliteType.assignableTo #[.agg #[.pointer (some ⟨5, 91, none⟩)], .iface 234 (.agg #[.pointer (some ⟨5, 91, none⟩)])]).run Tryz.prog w = .ok (.bool true) w := by kernel_rfl
theorem Tryz.valueOfF (n:Int) (w:World):(ReflectliteValue.unpack (.iface 91 (.int .i64 n))).run Tryz.prog w
  = .ok (.agg #[.pointer (some ⟨5,91,none⟩),.pointer (some ⟨w.heap.size,0,none⟩),.int .u64 130]) (w.alloc (.cells #[.int .i64 n] 91)):=by kernel_rfl
theorem Tryz.elemOfP (w:World):(Rtype.elem? 96).run Tryz.prog w=.ok (some 91) w:=by kernel_rfl
theorem Tryz.mkF (p:Addr) (w:World):(ReflectliteValue.mk 91 p ReflectliteValue.flagAddr).run Tryz.prog w=.ok (.agg #[.pointer (some ⟨5,91,none⟩),.pointer (some p),.int .u64 386]) w:=by kernel_rfl
theorem Tryz.elemV (a p:Addr) (W:World) (ha:W.cell? a=some (.pointer (some p))) :
  (ReflectliteValue.method (ReflectliteValue.valueError "reflectlite.Value.Elem" 0) ReflectliteValue.elem #[.agg #[.pointer (some ⟨5, 96, none⟩), .pointer (some a), .int .u64 150]]).run Tryz.prog W
   = .ok (.agg #[.pointer (some ⟨5,91,none⟩),.pointer (some p),.int .u64 386]) W:=by
 rw[rlm]
 simp only[Sem.run_bind,Tryz.partsP,Result.andThen]
 simp[ReflectliteValue.elem,loadVar,isAgg,underlying,Tryz.underlying96,ha,Result.andThen,Tryz.elemOfP,Tryz.mkF]
theorem rls (v x:Value):ReflectliteValue.set #[v,x]=(do
  let (some (dst,a,fl),some (src,b,_)):=(←ReflectliteValue.parts v,←ReflectliteValue.parts x)
   | unsupported (.noEntry "extern/(internal/reflectlite.Value).Set.zeroValue")
  if fl / ReflectliteValue.flagAddr % 2 == 0 then unsupported (.noEntry "extern/(internal/reflectlite.Value).Set.unaddressable")
  let val ←loadVar src b
  if ←Rtype.directlyAssignable dst src then storeVar dst a val
  else if ←Rtype.implements dst src then
   if (←Rtype.kind src) == 20 then
    match val with
    | .nilIface => unsupported (.noEntry "extern/reflectlite: a nil value of one interface type handed on as a value of another")
    | _=>storeVar dst a val
   else storeVar dst a (.iface src val)
  else panicString ("reflectlite.Set: value of type " ++ (← Rtype.spelt src) ++ " is not assignable to type " ++ (← Rtype.spelt dst))
  pure (.tuple #[])):=rfl
theorem Tryz.partsFa (a:Addr) (w:World):(ReflectliteValue.parts (.agg #[.pointer (some ⟨5,91,none⟩),.pointer (some a),.int .u64 386])).run Tryz.prog w=.ok (some (91,a,386)) w:=by kernel_rfl
theorem Tryz.partsF (a:Addr) (w:World):(ReflectliteValue.parts (.agg #[.pointer (some ⟨5,91,none⟩),.pointer (some a),.int .u64 130])).run Tryz.prog w=.ok (some (91,a,130)) w:=by kernel_rfl
theorem Tryz.directF (w:World):(Rtype.directlyAssignable 91 91).run Tryz.prog w=.ok true w:=by kernel_rfl
theorem Tryz.setF (ta b:Addr) (n:Int) (old:Value) (W:World) (hb:W.cell? b=some (.int .i64 n)) (ht:W.cell? ta=some old) (hf:W.frozen? ta=false) :
  (ReflectliteValue.set #[.agg #[.pointer (some ⟨5,91,none⟩),.pointer (some ta),.int .u64 386],.agg #[.pointer (some ⟨5,91,none⟩),.pointer (some b),.int .u64 130]]).run Tryz.prog W
   = .ok (.tuple #[]) (W.setCell ta (.int .i64 n)):=by
 rw[rls]
 simp only[Sem.run_bind,Tryz.partsFa,Tryz.partsF,Result.andThen]
 simp[ReflectliteValue.flagAddr,loadVar,isAgg,underlying,Tryz.underlying91,hb,Result.andThen,Tryz.directF,storeVar,Value.cells,storeCells,Addr.add]
 rw[run_store Tryz.prog W ta _ _ (by rfl)]
 simp[ht,hf]
theorem TN (nm:String) (sg:TypeId) (got:Array Method) (h:(got.any fun m=>m.name == nm && m.sig == sg)=false):∃ s,Instr.missingMethod #[(nm,sg)] got=some s:=by
 unfold Instr.missingMethod
 simp only[List.filter,h,Bool.not_false,List.map]
 cases hc:nm.contains '.' with
 | true=>simp[List.partition,List.partition.loop,hc,Instr.least]
 | false=>simp[List.partition,List.partition.loop,hc,Instr.least]
theorem Tryz.infoAt : (Tryz.prog.info? 187).map (fun i => i.methods.any fun m => m.name == "As" && m.sig == 241) = some false := by kernel_rfl
theorem Tryz.undAs : Tryz.prog.underlying 239 = some (.interface #[("As", 241)]) := by kernel_rfl
theorem Tryz.zeroAs (w:World):(zeroValue 239).run Tryz.prog w=.ok .nilIface w:=by kernel_rfl
theorem Tryz.noAs (v:Value) (w:World):(Instr.typeAssert (.iface 187 v) 94 239 true).run Tryz.prog w=.ok (.tuple #[.nilIface,.bool false]) w:=by
 obtain ⟨i, hi, hm⟩ : ∃ i, Tryz.prog.info? 187 = some i ∧ (i.methods.any fun m => m.name == "As" && m.sig == 241) = false := by
  have h:=Tryz.infoAt
  cases hh:Tryz.prog.info? 187 with
  | none=>rw[hh] at h;cases h
  | some i=>rw[hh] at h;exact ⟨i,rfl,Option.some.inj h⟩
 obtain ⟨s,hs⟩:=TN _ _ _ hm
 have hz:=Tryz.zeroAs w
 unfold Instr.typeAssert
 simp[run_underlying Tryz.undAs,typeInfo,hi,hs,hz,Result.andThen]
theorem Tryz.hasUn (v:Value) (w:World):(Instr.typeAssert (.iface 187 v) 94 242 true).run Tryz.prog w=.ok (.tuple #[.iface 187 v,.bool true]) w:=by kernel_rfl
theorem Z4F (what:ByteArray) (x:Value) (w:World):Calls Tryz.prog 250 #[.agg #[.string what,x]] w fun e w'=>e=.returned x∧w'=w.alloc (.cells #[.string what,x] 187):=by
 go_enter Tryz.func250,Tryz.ntmps250
 go_wp2
 go_ret
 exact ⟨rfl,rfl⟩
theorem Tryz.methodKind (n : Nat) (h : Value) (w : World) : (Go.method (n + 1) 234 (.agg #[h]) "Kind").run Tryz.prog w = .ok (241, h) w := by kernel_rfl
theorem Tryz.methodElem (n : Nat) (h : Value) (w : World) : (Go.method (n + 1) 234 (.agg #[h]) "Elem").run Tryz.prog w = .ok (260, .agg #[h]) w := by kernel_rfl
theorem Tryz.methodImplements (n : Nat) (h : Value) (w : World) : (Go.method (n + 1) 234 (.agg #[h]) "Implements").run Tryz.prog w = .ok (261, .agg #[h]) w := by kernel_rfl
theorem Tryz.methodAssignableTo (n : Nat) (h : Value) (w : World) : (Go.method (n + 1) 234 (.agg #[h]) "AssignableTo").run Tryz.prog w = .ok (258, .agg #[h]) w := by kernel_rfl
theorem Tryz.methodUnwrap (n : Nat) (h : Value) (w : World) : (Go.method (n + 1) 187 h "Unwrap").run Tryz.prog w = .ok (250, h) w := by kernel_rfl
theorem Z88 (what:ByteArray) (n:Int) (t:Addr) (A0:Nat) (old:Value) (w:World) (hA:w.cell? ⟨A0,0,none⟩=some (.pointer (some t))) (ht0:w.cell? t=some old) (hf0:w.frozen? t=false) :
  Calls Tryz.prog 102 #[.iface 187 (.agg #[.string what,.iface 91 (.int .i64 n)]),.iface 96 (.pointer (some t)),.agg #[.pointer (some ⟨5,96,none⟩),.pointer (some ⟨A0,0,none⟩),.int .u64 150],.iface 234 (.agg #[.pointer (some ⟨5,91,none⟩)])] w fun ev w'=>ev=.returned (.bool true)∧Ext (·=t.block) w w':=by
 have h6:=@run_callFunc_extern Tryz.prog 99 _ (fun args=>ReflectliteValue.unpack (args.getD 0 (.tuple #[]))) Tryz.func99 (by kernel_rfl) (by kernel_rfl) (by kernel_rfl) (by kernel_rfl)
 have h10:=@run_callFunc_extern Tryz.prog 150 _ ReflectliteType.typeOf Tryz.func150 (by kernel_rfl) (by kernel_rfl) (by kernel_rfl) (by kernel_rfl)
 have h35 := @run_callFunc_extern Tryz.prog 258 _ (ReflectliteType.relation "AssignableTo" ReflectliteType.assignableTo) Tryz.func258 (by kernel_rfl) (by kernel_rfl) (by kernel_rfl) (by kernel_rfl)
 have h11 := @run_callFunc_extern Tryz.prog 151 _ (ReflectliteValue.method (ReflectliteValue.valueError "reflectlite.Value.Elem" 0) ReflectliteValue.elem) Tryz.func151 (by kernel_rfl) (by kernel_rfl) (by kernel_rfl) (by kernel_rfl)
 have h12:=@run_callFunc_extern Tryz.prog 152 _ ReflectliteValue.set Tryz.func152 (by kernel_rfl) (by kernel_rfl) (by kernel_rfl) (by kernel_rfl)
 have mA:=Tryz.methodAssignableTo
 have mU:=Tryz.methodUnwrap
 have tA:=Tryz.typeOfA
 have tF:=Tryz.typeOfF
 have aA:=Tryz.assignableA
 have aF:=Tryz.assignableF
 have nA:=Tryz.noAs
 have hU:=Tryz.hasUn
 have vF:=Tryz.valueOfF
 have hAl:A0<w.heap.size:=Zu hA
 have htl:t.block<w.heap.size:=by
  rcases Nat.lt_or_ge t.block w.heap.size with h|h
  ·exact h
  ·simp[World.cell?,Array.getElem?_eq_none h] at ht0
 have el:=Tryz.elemV ⟨A0,0,none⟩ t ((w.alloc (.cells #[.pointer (some ⟨5,96,none⟩),.pointer (some ⟨A0,0,none⟩),.int .u64 150] 177)).alloc (.cells #[.string what,.iface 91 (.int .i64 n)] 187)) (by rw[World.cell?_alloc_lt _ _ ⟨A0,0,none⟩ (by simp;omega),World.cell?_alloc_lt _ _ ⟨A0,0,none⟩ hAl];exact hA)
 have st:=Tryz.setF t ⟨w.heap.size+1+1,0,none⟩ n old (((w.alloc (.cells #[.pointer (some ⟨5,96,none⟩),.pointer (some ⟨A0,0,none⟩),.int .u64 150] 177)).alloc (.cells #[.string what,.iface 91 (.int .i64 n)] 187)).alloc (.cells #[.int .i64 n] 91)) (by rw[World.cell?_alloc_at _ _ _ _ (by simp)];rfl)
  (by rw[World.cell?_alloc_lt _ _ t (by simp;omega),World.cell?_alloc_lt _ _ t (by simp;omega),World.cell?_alloc_lt _ _ t htl];exact ht0)
  (by rw[World.frozen?_alloc_old _ _ t (by simp;omega),World.frozen?_alloc_old _ _ t (by simp;omega),World.frozen?_alloc_old _ _ t (Nat.ne_of_lt htl)];exact hf0)
 clear ht0 hf0 hA
 go_enter Tryz.func102,Tryz.ntmps102
 go_wp2_with fail
 refine wp_loop_rounds 2 ?_
 rw[rounds_succ]
 go_wp2_with (first|(go_at_call 250;refine (Z4F what (.iface 91 (.int .i64 n)) _).mono ?_;rintro e w' ⟨rfl,rfl⟩))
 rw[rounds_succ]
 go_wp2_with fail
 go_ret
 refine ⟨rfl,?_⟩
 exact ((((Ext.refl (·=t.block) w).alloc _).alloc _).alloc _).setCell (p:=t) (.inr rfl) _
theorem Z84 (what:ByteArray) (n:Int) (t:Addr) (old:Value) (w:World) (hg:w.cell? ⟨0,0,none⟩=some (.iface 234 (.agg #[.pointer (some ⟨5,94,none⟩)]))) (ht0:w.cell? t=some old) (hf0:w.frozen? t=false) :
  Calls Tryz.prog 52 #[TF what n,.iface 96 (.pointer (some t))] w fun ev w'=>ev=.returned (.bool true)∧Ext (·=t.block) w w':=by
 have h6:=@run_callFunc_extern Tryz.prog 99 _ (fun args=>ReflectliteValue.unpack (args.getD 0 (.tuple #[]))) Tryz.func99 (by kernel_rfl) (by kernel_rfl) (by kernel_rfl) (by kernel_rfl)
 have h7 := @run_callFunc_extern Tryz.prog 100 _ (ReflectliteValue.methodAny (ReflectliteValue.valueError "reflectlite.Value.Type" 0) (fun t _ _ _ => ReflectliteType.toType t)) Tryz.func100 (by kernel_rfl) (by kernel_rfl) (by kernel_rfl) (by kernel_rfl)
 have h8 := @run_callFunc_extern Tryz.prog 101 _ (ReflectliteValue.method (ReflectliteValue.valueError "reflectlite.Value.IsNil" 0) ReflectliteValue.isNil) Tryz.func101 (by kernel_rfl) (by kernel_rfl) (by kernel_rfl) (by kernel_rfl)
 have h27:=@run_callFunc_extern Tryz.prog 241 _ (ReflectliteType.abiMethod fun t=>do pure (.int .u8 (←Rtype.kind t))) Tryz.func241 (by kernel_rfl) (by kernel_rfl) (by kernel_rfl) (by kernel_rfl)
 have h37:=@run_callFunc_extern Tryz.prog 260 _ (ReflectliteType.method ReflectliteType.elem) Tryz.func260 (by kernel_rfl) (by kernel_rfl) (by kernel_rfl) (by kernel_rfl)
 have h38 := @run_callFunc_extern Tryz.prog 261 _ (ReflectliteType.relation "Implements" ReflectliteType.implements_) Tryz.func261 (by kernel_rfl) (by kernel_rfl) (by kernel_rfl) (by kernel_rfl)
 have h10:=@run_callFunc_extern Tryz.prog 150 _ ReflectliteType.typeOf Tryz.func150 (by kernel_rfl) (by kernel_rfl) (by kernel_rfl) (by kernel_rfl)
 have h35 := @run_callFunc_extern Tryz.prog 258 _ (ReflectliteType.relation "AssignableTo" ReflectliteType.assignableTo) Tryz.func258 (by kernel_rfl) (by kernel_rfl) (by kernel_rfl) (by kernel_rfl)
 have h11 := @run_callFunc_extern Tryz.prog 151 _ (ReflectliteValue.method (ReflectliteValue.valueError "reflectlite.Value.Elem" 0) ReflectliteValue.elem) Tryz.func151 (by kernel_rfl) (by kernel_rfl) (by kernel_rfl) (by kernel_rfl)
 have h12:=@run_callFunc_extern Tryz.prog 152 _ ReflectliteValue.set Tryz.func152 (by kernel_rfl) (by kernel_rfl) (by kernel_rfl) (by kernel_rfl)
 have f6:=Tryz.valueOfP
 have f7:=Tryz.typeP
 have k27:=Tryz.kindP
 have k25:=Tryz.kindF
 have e27:=Tryz.elemP
 have i25:=Tryz.implementsF
 have n8:=Tryz.isNilP ⟨w.heap.size,0,none⟩ t ((w.alloc (.cells #[.pointer (some t)] 96)).alloc (.cells #[.pointer (some ⟨5,96,none⟩),.pointer (some ⟨w.heap.size,0,none⟩),.int .u64 150] 177)) (by simp)
 have hlt:0<w.heap.size:=by
  rcases Nat.eq_zero_or_pos w.heap.size with h0|h
  ·simp[World.cell?,h0] at hg
  ·exact h
 have htl:t.block<w.heap.size:=by
  rcases Nat.lt_or_ge t.block w.heap.size with h|h
  ·exact h
  ·simp[World.cell?,Array.getElem?_eq_none h] at ht0
 have hg2:((w.alloc (.cells #[.pointer (some t)] 96)).alloc (.cells #[.pointer (some ⟨5,96,none⟩),.pointer (some ⟨w.heap.size,0,none⟩),.int .u64 150] 177)).cell? ⟨0,0,none⟩=some (.iface 234 (.agg #[.pointer (some ⟨5,94,none⟩)])):=by
  rw[World.cell?_alloc_lt _ _ ⟨0,0,none⟩ (by simp),World.cell?_alloc_lt _ _ ⟨0,0,none⟩ hlt];exact hg
 have mK:=Tryz.methodKind
 have mE:=Tryz.methodElem
 have mI:=Tryz.methodImplements
 have mA:=Tryz.methodAssignableTo
 have mU:=Tryz.methodUnwrap
 have tA:=Tryz.typeOfA
 have tF:=Tryz.typeOfF
 have aA:=Tryz.assignableA
 have aF:=Tryz.assignableF
 have nA:=Tryz.noAs
 have hU:=Tryz.hasUn
 have vF:=Tryz.valueOfF
 unfold TF
 go_enter Tryz.func52,Tryz.ntmps52
 go_wp2_with fail
 refine (Z88 what n t w.heap.size old _ ?_ ?_ ?_).mono ?_
 ·rw[World.cell?_alloc_lt _ _ ⟨w.heap.size,0,none⟩ (by simp)];simp
 ·rw[World.cell?_alloc_lt _ _ t (by simp;omega),World.cell?_alloc_lt _ _ t htl];exact ht0
 ·rw[World.frozen?_alloc_old _ _ t (by simp;omega),World.frozen?_alloc_old _ _ t (Nat.ne_of_lt htl)];exact hf0
 rintro e w' ⟨rfl,hx⟩
 have HX:Hid (Ext (·=t.block) w w'):=Jh ((((Ext.refl (·=t.block) w).alloc _).alloc _).andThen hx (fun i hi e=>e))
 clear hx
 go_wp2_with fail
 go_ret
 exact ⟨rfl,HX.out⟩
def Yk (what:ByteArray) (n:Int):Value:=.iface 212 (.agg #[.string what,.iface 204 (.int .i64 n)])
theorem Tryz.valueOfPO09 (t:Addr) (w:World):(ReflectliteValue.unpack (.iface 208 (.pointer (some t)))).run Tryz.prog w
  = .ok (.agg #[.pointer (some ⟨5,208,none⟩),.pointer (some ⟨w.heap.size,0,none⟩),.int .u64 150]) (w.alloc (.cells #[.pointer (some t)] 208)):=by kernel_rfl
theorem Tryz.typePO09 (a : Addr) (w : World) : (ReflectliteValue.methodAny (ReflectliteValue.valueError "reflectlite.Value.Type" 0) (fun t _ _ _ => ReflectliteType.toType t) #[.agg #[.pointer (some ⟨5, 208, none⟩), .pointer (some a), .int .u64 150]]).run Tryz.prog w
  = .ok (.iface 234 (.agg #[.pointer (some ⟨5,208,none⟩)])) w:=by kernel_rfl
theorem Tryz.kindPO09 (w:World):((ReflectliteType.abiMethod fun t=>(fun a:Nat=>Value.int IntKind.u8 (a:Int)) <$> Rtype.kind t) #[.pointer (some ⟨5,208,none⟩)]).run Tryz.prog w=.ok (.int .u8 22) w:=by kernel_rfl
theorem Tryz.kindFO09 (w:World):((ReflectliteType.abiMethod fun t=>(fun a:Nat=>Value.int IntKind.u8 (a:Int)) <$> Rtype.kind t) #[.pointer (some ⟨5,204,none⟩)]).run Tryz.prog w=.ok (.int .u8 2) w:=by kernel_rfl
theorem Tryz.partsPO09 (a:Addr) (w:World):(ReflectliteValue.parts (.agg #[.pointer (some ⟨5,208,none⟩),.pointer (some a),.int .u64 150])).run Tryz.prog w=.ok (some (208,a,150)) w:=by kernel_rfl
theorem Tryz.isNilPO09 (a p:Addr) (W:World) (ha:W.cell? a=some (.pointer (some p))) :
  (ReflectliteValue.method (ReflectliteValue.valueError "reflectlite.Value.IsNil" 0) ReflectliteValue.isNil #[.agg #[.pointer (some ⟨5, 208, none⟩), .pointer (some a), .int .u64 150]]).run Tryz.prog W = .ok (.bool false) W := by
 rw[rlm]
 simp only[Sem.run_bind,Tryz.partsPO09,Result.andThen]
 simp[ReflectliteValue.isNil,loadVar,isAgg,underlying,Tryz.underlying208,ha,Result.andThen]
theorem Tryz.elemPO09 (w:World):(ReflectliteType.method ReflectliteType.elem #[.agg #[.pointer (some ⟨5,208,none⟩)]]).run Tryz.prog w=.ok (.iface 234 (.agg #[.pointer (some ⟨5,204,none⟩)])) w:=by kernel_rfl
theorem Tryz.implementsFO09 (w : World) : (ReflectliteType.relation "Implements" ReflectliteType.implements_ #[.agg #[.pointer (some ⟨5, 204, none⟩)], .iface 234 (.agg #[.pointer (some ⟨5, 94, none⟩)])]).run Tryz.prog w = .ok (.bool true) w := by kernel_rfl
theorem Tryz.typeOfAO09 (v:Value) (w:World):(ReflectliteType.typeOf #[.iface 212 v]).run Tryz.prog w=.ok (.iface 234 (.agg #[.pointer (some ⟨5,212,none⟩)])) w:=by kernel_rfl
theorem Tryz.typeOfFO09 (v:Value) (w:World):(ReflectliteType.typeOf #[.iface 204 v]).run Tryz.prog w=.ok (.iface 234 (.agg #[.pointer (some ⟨5,204,none⟩)])) w:=by kernel_rfl
theorem Tryz.assignableAO09 (w : World) : (ReflectliteType.relation "AssignableTo" ReflectliteType.assignableTo #[.agg #[.pointer (some ⟨5, 212, none⟩)], .iface 234 (.agg #[.pointer (some ⟨5, 204, none⟩)])]).run Tryz.prog w = .ok (.bool false) w := by kernel_rfl
theorem Tryz.assignableFO09 (w : World) : (ReflectliteType.relation "AssignableTo" ReflectliteType.assignableTo #[.agg #[.pointer (some ⟨5, 204, none⟩)], .iface 234 (.agg #[.pointer (some ⟨5, 204, none⟩)])]).run Tryz.prog w = .ok (.bool true) w := by kernel_rfl
theorem Tryz.valueOfFO09 (n:Int) (w:World):(ReflectliteValue.unpack (.iface 204 (.int .i64 n))).run Tryz.prog w
  = .ok (.agg #[.pointer (some ⟨5,204,none⟩),.pointer (some ⟨w.heap.size,0,none⟩),.int .u64 130]) (w.alloc (.cells #[.int .i64 n] 204)):=by kernel_rfl
theorem Tryz.elemOfPO09 (w:World):(Rtype.elem? 208).run Tryz.prog w=.ok (some 204) w:=by kernel_rfl
theorem Tryz.mkFO09 (p:Addr) (w:World):(ReflectliteValue.mk 204 p ReflectliteValue.flagAddr).run Tryz.prog w=.ok (.agg #[.pointer (some ⟨5,204,none⟩),.pointer (some p),.int .u64 386]) w:=by kernel_rfl
theorem Tryz.elemVO09 (a p:Addr) (W:World) (ha:W.cell? a=some (.pointer (some p))) :
  (ReflectliteValue.method (ReflectliteValue.valueError "reflectlite.Value.Elem" 0) ReflectliteValue.elem #[.agg #[.pointer (some ⟨5, 208, none⟩), .pointer (some a), .int .u64 150]]).run Tryz.prog W
   = .ok (.agg #[.pointer (some ⟨5,204,none⟩),.pointer (some p),.int .u64 386]) W:=by
 rw[rlm]
 simp only[Sem.run_bind,Tryz.partsPO09,Result.andThen]
 simp[ReflectliteValue.elem,loadVar,isAgg,underlying,Tryz.underlying208,ha,Result.andThen,Tryz.elemOfPO09,Tryz.mkFO09]
theorem Tryz.partsFaO09 (a:Addr) (w:World):(ReflectliteValue.parts (.agg #[.pointer (some ⟨5,204,none⟩),.pointer (some a),.int .u64 386])).run Tryz.prog w=.ok (some (204,a,386)) w:=by kernel_rfl
theorem Tryz.partsFO09 (a:Addr) (w:World):(ReflectliteValue.parts (.agg #[.pointer (some ⟨5,204,none⟩),.pointer (some a),.int .u64 130])).run Tryz.prog w=.ok (some (204,a,130)) w:=by kernel_rfl
theorem Tryz.directFO09 (w:World):(Rtype.directlyAssignable 204 204).run Tryz.prog w=.ok true w:=by kernel_rfl
theorem Tryz.setFO09 (ta b:Addr) (n:Int) (old:Value) (W:World) (hb:W.cell? b=some (.int .i64 n)) (ht:W.cell? ta=some old) (hf:W.frozen? ta=false) :
  (ReflectliteValue.set #[.agg #[.pointer (some ⟨5,204,none⟩),.pointer (some ta),.int .u64 386],.agg #[.pointer (some ⟨5,204,none⟩),.pointer (some b),.int .u64 130]]).run Tryz.prog W
   = .ok (.tuple #[]) (W.setCell ta (.int .i64 n)):=by
 rw[rls]
 simp only[Sem.run_bind,Tryz.partsFaO09,Tryz.partsFO09,Result.andThen]
 simp[ReflectliteValue.flagAddr,loadVar,isAgg,underlying,Tryz.underlying204,hb,Result.andThen,Tryz.directFO09,storeVar,Value.cells,storeCells,Addr.add]
 rw[run_store Tryz.prog W ta _ _ (by rfl)]
 simp[ht,hf]
theorem Tryz.infoAtO09 : (Tryz.prog.info? 212).map (fun i => i.methods.any fun m => m.name == "As" && m.sig == 241) = some false := by kernel_rfl
theorem Tryz.noAsO09 (v:Value) (w:World):(Instr.typeAssert (.iface 212 v) 94 239 true).run Tryz.prog w=.ok (.tuple #[.nilIface,.bool false]) w:=by
 obtain ⟨i, hi, hm⟩ : ∃ i, Tryz.prog.info? 212 = some i ∧ (i.methods.any fun m => m.name == "As" && m.sig == 241) = false := by
  have h:=Tryz.infoAtO09
  cases hh:Tryz.prog.info? 212 with
  | none=>rw[hh] at h;cases h
  | some i=>rw[hh] at h;exact ⟨i,rfl,Option.some.inj h⟩
 obtain ⟨s,hs⟩:=TN _ _ _ hm
 have hz:=Tryz.zeroAs w
 unfold Instr.typeAssert
 simp[run_underlying Tryz.undAs,typeInfo,hi,hs,hz,Result.andThen]
theorem Tryz.hasUnO09 (v:Value) (w:World):(Instr.typeAssert (.iface 212 v) 94 242 true).run Tryz.prog w=.ok (.tuple #[.iface 212 v,.bool true]) w:=by kernel_rfl
theorem Uv (what:ByteArray) (x:Value) (w:World):Calls Tryz.prog 255 #[.agg #[.string what,x]] w fun e w'=>e=.returned x∧w'=w.alloc (.cells #[.string what,x] 212):=by
 go_enter Tryz.func255,Tryz.ntmps255
 go_wp2
 go_ret
 exact ⟨rfl,rfl⟩
theorem Tryz.methodUnwrapO09 (n : Nat) (h : Value) (w : World) : (Go.method (n + 1) 212 h "Unwrap").run Tryz.prog w = .ok (255, h) w := by kernel_rfl
theorem Z77 (what:ByteArray) (n:Int) (t:Addr) (A0:Nat) (old:Value) (w:World) (hA:w.cell? ⟨A0,0,none⟩=some (.pointer (some t))) (ht0:w.cell? t=some old) (hf0:w.frozen? t=false) :
  Calls Tryz.prog 102 #[.iface 212 (.agg #[.string what,.iface 204 (.int .i64 n)]),.iface 208 (.pointer (some t)),.agg #[.pointer (some ⟨5,208,none⟩),.pointer (some ⟨A0,0,none⟩),.int .u64 150],.iface 234 (.agg #[.pointer (some ⟨5,204,none⟩)])] w fun ev w'=>ev=.returned (.bool true)∧Ext (·=t.block) w w'∧w'.cell? t=some (.int .i64 n):=by
 have h6:=@run_callFunc_extern Tryz.prog 99 _ (fun args=>ReflectliteValue.unpack (args.getD 0 (.tuple #[]))) Tryz.func99 (by kernel_rfl) (by kernel_rfl) (by kernel_rfl) (by kernel_rfl)
 have h10:=@run_callFunc_extern Tryz.prog 150 _ ReflectliteType.typeOf Tryz.func150 (by kernel_rfl) (by kernel_rfl) (by kernel_rfl) (by kernel_rfl)
 have h35 := @run_callFunc_extern Tryz.prog 258 _ (ReflectliteType.relation "AssignableTo" ReflectliteType.assignableTo) Tryz.func258 (by kernel_rfl) (by kernel_rfl) (by kernel_rfl) (by kernel_rfl)
 have h11 := @run_callFunc_extern Tryz.prog 151 _ (ReflectliteValue.method (ReflectliteValue.valueError "reflectlite.Value.Elem" 0) ReflectliteValue.elem) Tryz.func151 (by kernel_rfl) (by kernel_rfl) (by kernel_rfl) (by kernel_rfl)
 have h12:=@run_callFunc_extern Tryz.prog 152 _ ReflectliteValue.set Tryz.func152 (by kernel_rfl) (by kernel_rfl) (by kernel_rfl) (by kernel_rfl)
 have mA:=Tryz.methodAssignableTo
 have mU:=Tryz.methodUnwrapO09
 have tA:=Tryz.typeOfAO09
 have tF:=Tryz.typeOfFO09
 have aA:=Tryz.assignableAO09
 have aF:=Tryz.assignableFO09
 have nA:=Tryz.noAsO09
 have hU:=Tryz.hasUnO09
 have vF:=Tryz.valueOfFO09
 have hAl:A0<w.heap.size:=Zu hA
 have htl:t.block<w.heap.size:=by
  rcases Nat.lt_or_ge t.block w.heap.size with h|h
  ·exact h
  ·simp[World.cell?,Array.getElem?_eq_none h] at ht0
 have el:=Tryz.elemVO09 ⟨A0,0,none⟩ t ((w.alloc (.cells #[.pointer (some ⟨5,208,none⟩),.pointer (some ⟨A0,0,none⟩),.int .u64 150] 177)).alloc (.cells #[.string what,.iface 204 (.int .i64 n)] 212)) (by rw[World.cell?_alloc_lt _ _ ⟨A0,0,none⟩ (by simp;omega),World.cell?_alloc_lt _ _ ⟨A0,0,none⟩ hAl];exact hA)
 have st:=Tryz.setFO09 t ⟨w.heap.size+1+1,0,none⟩ n old (((w.alloc (.cells #[.pointer (some ⟨5,208,none⟩),.pointer (some ⟨A0,0,none⟩),.int .u64 150] 177)).alloc (.cells #[.string what,.iface 204 (.int .i64 n)] 212)).alloc (.cells #[.int .i64 n] 204)) (by rw[World.cell?_alloc_at _ _ _ _ (by simp)];rfl)
  (by rw[World.cell?_alloc_lt _ _ t (by simp;omega),World.cell?_alloc_lt _ _ t (by simp;omega),World.cell?_alloc_lt _ _ t htl];exact ht0)
  (by rw[World.frozen?_alloc_old _ _ t (by simp;omega),World.frozen?_alloc_old _ _ t (by simp;omega),World.frozen?_alloc_old _ _ t (Nat.ne_of_lt htl)];exact hf0)
 have hc3:(((w.alloc (.cells #[.pointer (some ⟨5,208,none⟩),.pointer (some ⟨A0,0,none⟩),.int .u64 150] 177)).alloc (.cells #[.string what,.iface 204 (.int .i64 n)] 212)).alloc (.cells #[.int .i64 n] 204)).cell? t=some old:=by
  rw[World.cell?_alloc_lt _ _ t (by simp;omega),World.cell?_alloc_lt _ _ t (by simp;omega),World.cell?_alloc_lt _ _ t htl];exact ht0
 have HC3:=Jh (World.cell?_setCell_same' _ t (.int .i64 n) (by rw[hc3];rfl))
 clear ht0 hf0 hA hc3
 go_enter Tryz.func102,Tryz.ntmps102
 go_wp2_with fail
 refine wp_loop_rounds 2 ?_
 rw[rounds_succ]
 go_wp2_with (first|(go_at_call 255;refine (Uv what (.iface 204 (.int .i64 n)) _).mono ?_;rintro e w' ⟨rfl,rfl⟩))
 rw[rounds_succ]
 go_wp2_with fail
 go_ret
 refine ⟨rfl,?_,HC3.out⟩
 exact ((((Ext.refl (·=t.block) w).alloc _).alloc _).alloc _).setCell (p:=t) (.inr rfl) _
theorem Z5j (what:ByteArray) (n:Int) (t:Addr) (old:Value) (w:World) (hg:w.cell? ⟨0,0,none⟩=some (.iface 234 (.agg #[.pointer (some ⟨5,94,none⟩)]))) (ht0:w.cell? t=some old) (hf0:w.frozen? t=false) :
  Calls Tryz.prog 52 #[Yk what n,.iface 208 (.pointer (some t))] w fun ev w'=>ev=.returned (.bool true)∧Ext (·=t.block) w w'∧w'.cell? t=some (.int .i64 n):=by
 have h6:=@run_callFunc_extern Tryz.prog 99 _ (fun args=>ReflectliteValue.unpack (args.getD 0 (.tuple #[]))) Tryz.func99 (by kernel_rfl) (by kernel_rfl) (by kernel_rfl) (by kernel_rfl)
 have h7 := @run_callFunc_extern Tryz.prog 100 _ (ReflectliteValue.methodAny (ReflectliteValue.valueError "reflectlite.Value.Type" 0) (fun t _ _ _ => ReflectliteType.toType t)) Tryz.func100 (by kernel_rfl) (by kernel_rfl) (by kernel_rfl) (by kernel_rfl)
 have h8 := @run_callFunc_extern Tryz.prog 101 _ (ReflectliteValue.method (ReflectliteValue.valueError "reflectlite.Value.IsNil" 0) ReflectliteValue.isNil) Tryz.func101 (by kernel_rfl) (by kernel_rfl) (by kernel_rfl) (by kernel_rfl)
 have h27:=@run_callFunc_extern Tryz.prog 241 _ (ReflectliteType.abiMethod fun t=>do pure (.int .u8 (←Rtype.kind t))) Tryz.func241 (by kernel_rfl) (by kernel_rfl) (by kernel_rfl) (by kernel_rfl)
 have h37:=@run_callFunc_extern Tryz.prog 260 _ (ReflectliteType.method ReflectliteType.elem) Tryz.func260 (by kernel_rfl) (by kernel_rfl) (by kernel_rfl) (by kernel_rfl)
 have h38 := @run_callFunc_extern Tryz.prog 261 _ (ReflectliteType.relation "Implements" ReflectliteType.implements_) Tryz.func261 (by kernel_rfl) (by kernel_rfl) (by kernel_rfl) (by kernel_rfl)
 have h10:=@run_callFunc_extern Tryz.prog 150 _ ReflectliteType.typeOf Tryz.func150 (by kernel_rfl) (by kernel_rfl) (by kernel_rfl) (by kernel_rfl)
 have h35 := @run_callFunc_extern Tryz.prog 258 _ (ReflectliteType.relation "AssignableTo" ReflectliteType.assignableTo) Tryz.func258 (by kernel_rfl) (by kernel_rfl) (by kernel_rfl) (by kernel_rfl)
 have h11 := @run_callFunc_extern Tryz.prog 151 _ (ReflectliteValue.method (ReflectliteValue.valueError "reflectlite.Value.Elem" 0) ReflectliteValue.elem) Tryz.func151 (by kernel_rfl) (by kernel_rfl) (by kernel_rfl) (by kernel_rfl)
 have h12:=@run_callFunc_extern Tryz.prog 152 _ ReflectliteValue.set Tryz.func152 (by kernel_rfl) (by kernel_rfl) (by kernel_rfl) (by kernel_rfl)
 have f6:=Tryz.valueOfPO09
 have f7:=Tryz.typePO09
 have k27:=Tryz.kindPO09
 have k25:=Tryz.kindFO09
 have e27:=Tryz.elemPO09
 have i25:=Tryz.implementsFO09
 have n8:=Tryz.isNilPO09 ⟨w.heap.size,0,none⟩ t ((w.alloc (.cells #[.pointer (some t)] 208)).alloc (.cells #[.pointer (some ⟨5,208,none⟩),.pointer (some ⟨w.heap.size,0,none⟩),.int .u64 150] 177)) (by simp)
 have hlt:0<w.heap.size:=by
  rcases Nat.eq_zero_or_pos w.heap.size with h0|h
  ·simp[World.cell?,h0] at hg
  ·exact h
 have htl:t.block<w.heap.size:=by
  rcases Nat.lt_or_ge t.block w.heap.size with h|h
  ·exact h
  ·simp[World.cell?,Array.getElem?_eq_none h] at ht0
 have hg2:((w.alloc (.cells #[.pointer (some t)] 208)).alloc (.cells #[.pointer (some ⟨5,208,none⟩),.pointer (some ⟨w.heap.size,0,none⟩),.int .u64 150] 177)).cell? ⟨0,0,none⟩=some (.iface 234 (.agg #[.pointer (some ⟨5,94,none⟩)])):=by
  rw[World.cell?_alloc_lt _ _ ⟨0,0,none⟩ (by simp),World.cell?_alloc_lt _ _ ⟨0,0,none⟩ hlt];exact hg
 have mK:=Tryz.methodKind
 have mE:=Tryz.methodElem
 have mI:=Tryz.methodImplements
 have mA:=Tryz.methodAssignableTo
 have mU:=Tryz.methodUnwrapO09
 have tA:=Tryz.typeOfAO09
 have tF:=Tryz.typeOfFO09
 have aA:=Tryz.assignableAO09
 have aF:=Tryz.assignableFO09
 have nA:=Tryz.noAsO09
 have hU:=Tryz.hasUnO09
 have vF:=Tryz.valueOfFO09
 unfold Yk
 go_enter Tryz.func52,Tryz.ntmps52
 go_wp2_with fail
 refine (Z77 what n t w.heap.size old _ ?_ ?_ ?_).mono ?_
 ·rw[World.cell?_alloc_lt _ _ ⟨w.heap.size,0,none⟩ (by simp)];simp
 ·rw[World.cell?_alloc_lt _ _ t (by simp;omega),World.cell?_alloc_lt _ _ t htl];exact ht0
 ·rw[World.frozen?_alloc_old _ _ t (by simp;omega),World.frozen?_alloc_old _ _ t (Nat.ne_of_lt htl)];exact hf0
 rintro e w' ⟨rfl,hx,hcn⟩
 have HX:Hid (Ext (·=t.block) w w'):=Jh ((((Ext.refl (·=t.block) w).alloc _).alloc _).andThen hx (fun i hi e=>e))
 have HCN:=Lib.hid hcn
 clear hx hcn
 go_wp2_with fail
 go_ret
 exact ⟨rfl,HX.out,HCN.out⟩
def Z0R (n:Int):Value:=.iface 204 (.int .i64 n)
theorem Tryz.isComparableO (w : World) : ((ReflectliteType.method fun t => (do Rtype.noPackHeld "Comparable" t; (fun a => Value.bool a.comparable) <$> typeInfo t)) #[.agg #[.pointer (some ⟨5, 204, none⟩)]]).run Tryz.prog w = .ok (.bool true) w := by kernel_rfl
theorem Tryz.methodComparable (n : Nat) (h : Value) (w : World) : (Go.method (n + 1) 234 (.agg #[h]) "Comparable").run Tryz.prog w = .ok (259, .agg #[h]) w := by kernel_rfl
theorem Tryz.undIs : Tryz.prog.underlying 262 = some (.interface #[("Is", 264)]) := by kernel_rfl
theorem Tryz.zeroIs (w:World):(zeroValue 262).run Tryz.prog w=.ok .nilIface w:=by kernel_rfl
theorem Tryz.undUn : Tryz.prog.underlying 242 = some (.interface #[("Unwrap", 95)]) := by kernel_rfl
theorem Tryz.zeroUn (w:World):(zeroValue 242).run Tryz.prog w=.ok .nilIface w:=by kernel_rfl
theorem Tryz.undUs : Tryz.prog.underlying 243 = some (.interface #[("Unwrap", 245)]) := by kernel_rfl
theorem Tryz.zeroUs (w:World):(zeroValue 243).run Tryz.prog w=.ok .nilIface w:=by kernel_rfl
theorem Th (T I:Nat) (nm:String) (sg:TypeId) (v:Value) (w:World) (hu:Tryz.prog.underlying I=some (.interface #[(nm,sg)]))
  (hz:(zeroValue I).run Tryz.prog w=.ok .nilIface w)
  (h:(Tryz.prog.info? T).map (fun i=>i.methods.any fun m=>m.name == nm && m.sig == sg)=some false) :
  (Instr.typeAssert (.iface T v) 94 I true).run Tryz.prog w=.ok (.tuple #[.nilIface,.bool false]) w:=by
 obtain ⟨i,hi,hm⟩:∃ i,Tryz.prog.info? T=some i∧(i.methods.any fun m=>m.name == nm && m.sig == sg)=false:=by
  cases hh:Tryz.prog.info? T with
  | none=>rw[hh] at h;cases h
  | some i=>rw[hh] at h;exact ⟨i,rfl,Option.some.inj h⟩
 obtain ⟨s,hs⟩:=TN _ _ _ hm
 unfold Instr.typeAssert
 simp[run_underlying hu,typeInfo,hi,hs,hz,Result.andThen]
theorem Tryz.noIsA (v:Value) (w:World):(Instr.typeAssert (.iface 212 v) 94 262 true).run Tryz.prog w=.ok (.tuple #[.nilIface,.bool false]) w :=
 Th _ _ _ _ v w Tryz.undIs (Tryz.zeroIs w) (by kernel_rfl)
theorem Tryz.noIsF (v:Value) (w:World):(Instr.typeAssert (.iface 204 v) 94 262 true).run Tryz.prog w=.ok (.tuple #[.nilIface,.bool false]) w :=
 Th _ _ _ _ v w Tryz.undIs (Tryz.zeroIs w) (by kernel_rfl)
theorem Tryz.noUnF (v:Value) (w:World):(Instr.typeAssert (.iface 204 v) 94 242 true).run Tryz.prog w=.ok (.tuple #[.nilIface,.bool false]) w :=
 Th _ _ _ _ v w Tryz.undUn (Tryz.zeroUn w) (by kernel_rfl)
theorem Tryz.noUsF (v:Value) (w:World):(Instr.typeAssert (.iface 204 v) 94 243 true).run Tryz.prog w=.ok (.tuple #[.nilIface,.bool false]) w :=
 Th _ _ _ _ v w Tryz.undUs (Tryz.zeroUs w) (by kernel_rfl)
theorem Tryz.neqAF (a b:Value) (w:World):(binOp .eql 94 (.iface 212 a) (.iface 204 b)).run Tryz.prog w=.ok (.bool false) w:=by
 have h:∀ d:Nat,(Op.equalIn (d+1) 94 (.iface 212 a) (.iface 204 b)).run Tryz.prog w=.ok false w:=fun d=>by simp[Op.equalIn,run_underlying Tryz.underlying94]
 simp only[binOp]
 simp[Op.equal,Op.maxDepth,h 9999]
theorem Tryz.compF:(Tryz.prog.info? 204).map (·.comparable)=some true:=by kernel_rfl
theorem Tryz.eqlFF (a b:Int) (w:World):(binOp .eql 94 (.iface 204 (.int .i64 a)) (.iface 204 (.int .i64 b))).run Tryz.prog w=.ok (.bool (a == b)) w:=by
 obtain ⟨i,hi,hc⟩:=Option.map_eq_some_iff.1 Tryz.compF
 have h:∀ d:Nat,(Op.equalIn (d+2) 94 (.iface 204 (.int .i64 a)) (.iface 204 (.int .i64 b))).run Tryz.prog w=.ok (a == b) w:=fun d=>by
  simp[Op.equalIn,run_underlying Tryz.underlying94,run_underlying Tryz.underlying204,typeInfo,hi,hc]
 simp only[binOp]
 simp[Op.equal,Op.maxDepth,h 9998]
theorem Z89 (what:ByteArray) (n m:Int) (w:World) :
  Calls Tryz.prog 165 #[Yk what n,Z0R m,.bool true] w fun e w'=>e=.returned (.bool (n == m))∧Below w.heap.size w w':=by
 have mU:=Tryz.methodUnwrapO09
 have hU:=Tryz.hasUnO09
 have nA:=Tryz.noIsA
 have nF:=Tryz.noIsF
 have uF:=Tryz.noUnF
 have sF:=Tryz.noUsF
 have qA:=Tryz.neqAF
 have qF:=fun W=>Tryz.eqlFF n m W
 unfold Yk Z0R
 by_cases hnm:n=m
 ·subst hnm
  have hb:(n == n)=true:=by simp
  rw[hb]
  simp only[hb] at qF
  clear hb
  go_enter Tryz.func165,Tryz.ntmps165
  go_wp2_with fail
  refine wp_loop_rounds 2 ?_
  rw[rounds_succ]
  go_wp2_with (first|(go_at_call 255;refine (Uv what (.iface 204 (.int .i64 n)) _).mono ?_;rintro e w' ⟨rfl,rfl⟩))
  rw[rounds_succ]
  go_wp2_with fail
  go_ret
  exact ⟨rfl,(Below.refl _ _).alloc (Nat.le_refl _) _⟩
 ·have hb:(n == m)=false:=by simp[hnm]
  rw[hb]
  simp only[hb] at qF
  clear hb hnm
  go_enter Tryz.func165,Tryz.ntmps165
  go_wp2_with fail
  refine wp_loop_rounds 2 ?_
  rw[rounds_succ]
  go_wp2_with (first|(go_at_call 255;refine (Uv what (.iface 204 (.int .i64 n)) _).mono ?_;rintro e w' ⟨rfl,rfl⟩))
  rw[rounds_succ]
  go_wp2_with fail
  go_ret
  exact ⟨rfl,(Below.refl _ _).alloc (Nat.le_refl _) _⟩
theorem Z82 (what:ByteArray) (n m:Int) (w:World) :
  Calls Tryz.prog 119 #[Yk what n,Z0R m] w fun e w'=>e=.returned (.bool (n == m))∧Below w.heap.size w w':=by
 have h10:=@run_callFunc_extern Tryz.prog 150 _ ReflectliteType.typeOf Tryz.func150 (by kernel_rfl) (by kernel_rfl) (by kernel_rfl) (by kernel_rfl)
 have h32 := @run_callFunc_extern Tryz.prog 259 _ (ReflectliteType.method fun t => (do Rtype.noPackHeld "Comparable" t; pure (Value.bool (← typeInfo t).comparable))) Tryz.func259 (by kernel_rfl) (by kernel_rfl) (by kernel_rfl) (by kernel_rfl)
 have tF:=Tryz.typeOfFO09
 have cF:=Tryz.isComparableO
 have mC:=Tryz.methodComparable
 unfold Yk Z0R
 go_enter Tryz.func119,Tryz.ntmps119
 go_wp2_with fail
 refine (Z89 what n m _).mono ?_
 rintro e w' ⟨rfl,hb⟩
 have HB:=Lib.hid hb
 clear hb
 go_wp2_with fail
 go_ret
 exact ⟨rfl,HB.out⟩
theorem Z7v (m:Int) (w:World) :
  Calls Tryz.prog 119 #[.nilIface,Z0R m] w fun e w'=>e=.returned (.bool false)∧w'=w:=by
 have hn:=run_eql_iface_nil_left (P:=Tryz.prog) w 204 (.int .i64 m) Tryz.underlying94
 unfold Z0R
 go_enter Tryz.func119,Tryz.ntmps119
 go_wp2
 go_ret
 exact ⟨rfl,rfl⟩
end Go.Proofs.YtgmdimbiipemhaaGreatDoor
namespace Go.Proofs.YtgmdimbiipemhaaGreatDoor
open Go.RowKit
theorem Q1 {V:Type} (k:ByteArray):∀ (es:List MapEntry) (l:List (ByteArray × V)) (i:Nat),es.map (·.key)=l.map (fun p=>.string p.1) →
  Instr.findNow .string (.string k) es i=some ((Yb l k).map fun j=>(i+j,((es[j]?).map (·.val)).getD undef))
 | [],[],i,_=>by simp[Instr.findNow,Yb]
 | [],_ :: _,_,h=>by simp at h
 | _ :: _,[],_,h=>by simp at h
 | e :: es,p :: l,i,h=>by
  obtain ⟨k',v⟩:=p
  simp only[List.map_cons,List.cons.injEq] at h
  obtain ⟨h1,h2⟩:=h
  have ih:=Q1 k es l (i+1) h2
  simp only[Instr.findNow,h1,Instr.sameNow]
  by_cases hk:k'=k
  ·subst hk
   simp[Yb,XK]
  ·have hk':¬ k=k':=fun e=>hk e.symm
   have:(k == k')=false:=by rw[XK];simp[hk']
   simp only[this,ih,Yb,hk,if_false]
   cases Yb l k with
   | none=>rfl
   | some j=>simp[Nat.add_assoc,Nat.add_comm 1 j]
theorem Vc {V:Type}:Z27 (V:=V) Tryz.prog 9 Value.string where
 check em k w:=by kernel_rfl
 find k es l w h:=by
  simp only[Instr.findKey,Sem.run_bind,run_underlying Su,Result.andThen_ok,Q1 k es l 0 h,Sem.run_pure]
  cases Yb l k <;> simp
 stays k w:=by simp[Instr.keyThatStays,Instr.sameBits,beq_toListBytes]
theorem Own.slv {α:Type} {ea:α→List Value} {k:Nat} {e:TypeId} {base:Nat} {w:World} {v:Value} {l:List α} (h:Own ea k e base w v l):∃ s:Sl,v=s.val:=by
 rcases h.eq_slice with ⟨rfl,_⟩|⟨g,c,rfl,_,_⟩
 ·exact ⟨⟨none,0,0⟩,rfl⟩
 ·exact ⟨⟨_,_,_⟩,rfl⟩
structure Pc where
 s:Sl
 came:Int
 safe:Int
def Pc.cells (p:Pc):List Value:=[.slice p.s.a p.s.n p.s.cap,.int .i64 p.came,.int .i64 p.safe]
theorem Pc.len (p:Pc):p.cells.length=3:=rfl
theorem Pc.one (p:Pc):∀ u∈p.cells,u.oneCell'=true:=by
 intro u hu
 simp only[Pc.cells,List.mem_cons,List.not_mem_nil,or_false] at hu
 rcases hu with rfl|rfl|rfl <;> rfl
structure Chg where
 at_:Int
 name:ByteArray
 old:ByteArray
 f:Option Nat
def Wk (f:Option Nat):Value:=.pointer (f.map fun b=>⟨b,0,none⟩)
def Chg.cells (c:Chg):List Value:=[.int .i64 c.at_,.string c.name,.string c.old,Wk c.f]
theorem Chg.len (p:Chg):p.cells.length=4:=rfl
theorem Chg.one (p:Chg):∀ u∈p.cells,u.oneCell'=true:=by
 intro u hu
 simp only[Chg.cells,List.mem_cons,List.not_mem_nil,or_false] at hu
 rcases hu with rfl|rfl|rfl|rfl <;> rfl
structure PcA where
 bs:List UInt8
 came:Int
 safe:Int
def Z0F (base:Nat) (w:World) (q:Pc) (p:PcA):Prop:=Own u8c 1 5 base w q.s.val p.bs∧q.came=p.came∧q.safe=p.safe
def ZB (ps:List PcA):Nat:=(ps.map (·.bs.length)).sum
def XF (base:Nat) (w:World) (fb:Nat) (v:Value) (ps:List PcA):Prop :=
 base≤fb∧w.heap[fb]?=some (.cells #[v,.int .i64 (ZB ps)] 124 (0,0)) ∧
  ∃ qs:List Pc,Own Pc.cells 3 131 base w v qs∧qs.length=ps.length∧∀ (i:Nat) q p,qs[i]?=some q→ps[i]?=some p→Z0F base w q p
structure Z4 where
 files:List (ByteArray × Nat)
 base:List (ByteArray × Nat)
 chg:List Chg
 syn:List Int
 now:Int
 ids:List Nat
 fs:Nat→List PcA
structure Z4.Ok (A:Z4):Prop where
 inf:∀ n f,(n,f)∈A.files→f∈A.ids∧n.size≤8
 inb:∀ n f,(n,f)∈A.base→f∈A.ids∧n.size≤8
 inc:∀ c∈A.chg,∀ f,c.f=some f→f∈A.ids∧c.name.size≤8
 sz:∀ f∈A.ids,ZB (A.fs f)≤1048576
structure Z4.Small (A:Z4) (n:Nat):Prop where
 now0:0≤A.now
 now:A.now≤n
 chg:A.chg.length≤n
 syn:A.syn.length≤n
 pcs:∀ f∈A.ids,(A.fs f).length≤n+1
 fil:A.files.length≤n
def YX (f:Nat):Value:=.pointer (some ⟨f,0,none⟩)
structure DSh where
 pb:Nat
 mf:Nat
 mb:Nat
 vc:Value
 vs:Value
 rv:Nat→Value
structure Zb (base:Nat) (w:World) (D:DSh) (A:Z4):Prop where
 blk:w.heap[D.pb]?=some (.cells #[.map (some D.mf),.map (some D.mb),D.vc,D.vs,.int .i64 A.now] 118 (0,0))
 lo:base≤D.pb
 lof:base≤D.mf
 lob:base≤D.mb
 ne:D.mf≠D.mb
 mfiles:Zq Value.string YX w D.mf A.files
 mbase:Zq Value.string YX w D.mb A.base
 ochg:Own Chg.cells 4 126 base w D.vc A.chg
 osyn:Own Zi 1 3 base w D.vs A.syn
 file:∀ f,f∈A.ids→XF base w f (D.rv f) (A.fs f)
 apart:∀ f g,f∈A.ids→g∈A.ids→f≠g→∀ b,(D.rv f).ownBlock=some b→(D.rv g).ownBlock≠some b
 ok:A.Ok
theorem YO (w:World) (r i:Nat) (v:Value):Ext (·=r) w (w.setCell ⟨r,i,none⟩ v):=(Ext.refl (fun k=>k=r) w).setCell (p:=⟨r,i,none⟩) (.inr rfl) v
def Ys (w:World) (b:Nat):Option TypeId:=match w.heap[b]? with|some (.cells _ T _)=>some T|_=>none
theorem YW {w:World} {b:Nat} {c:Array Value} {T:TypeId} {q:Nat × Nat} (h:w.heap[b]?=some (.cells c T q)):Ys w b=some T:=by simp[Ys,h]
theorem Zk {α:Type} {ea:α→List Value} {k:Nat} {e:TypeId} {base:Nat} {w:World} {v:Value} {l:List α} (h:Own ea k e base w v l) {b:Nat} (hb:v.ownBlock=some b):Ys w b=some e:=by
 obtain ⟨c,hc⟩:=h.tag hb
 exact YW hc
theorem Xl {w:World} {b:Nat} {K V:Type} [DecidableEq K] {ek:K→Value} {ev:V→Value} {l:List (K × V)} (h:Zq ek ev w b l):Ys w b=none:=by
 obtain ⟨_,es,cl,h2,_⟩:=h
 simp[Ys,h2]
theorem WT {w:World} {b:Nat} {T:TypeId} (h:Ys w b=some T):b<w.heap.size:=by
 unfold Ys at h
 cases hb:w.heap[b]? with
 | none=>rw[hb] at h;cases h
 | some o=>exact (Array.getElem?_eq_some_iff.1 hb).1
theorem ZO {w:World} {a b:Nat} {x y:Option TypeId} (h:Ys w a=x) (k:Ys w b=y) (hxy:x≠y):a≠b:=by
 rintro rfl
 exact hxy (h.symm.trans k)
def Wn (D:DSh) (A:Z4) (b:Nat):Prop :=
 b=D.pb∨b=D.mf∨b=D.mb∨D.vc.ownBlock=some b∨D.vs.ownBlock=some b∨∃ f∈A.ids,b=f∨(D.rv f).ownBlock=some b
section
variable {base:Nat} {w w':World} {D:DSh} {A:Z4} {S:Nat→Prop}
theorem Z0F.ext {q:Pc} {p:PcA} (h:Z0F base w q p) (hx:Ext S w w') (hn:∀ b,base≤b→Ys w b=some 5→¬ S b):Z0F base w' q p :=
 ⟨h.1.ext hx (fun b hb=>hn b (h.1.blk b hb).1 (Zk h.1 hb)),h.2⟩
theorem XF.tag {fb:Nat} {v:Value} {ps:List PcA} (h:XF base w fb v ps):Ys w fb=some 124:=YW h.2.1
theorem XF.row {fb:Nat} {v:Value} {ps:List PcA} (h:XF base w fb v ps) {b:Nat} (hb:v.ownBlock=some b):Ys w b=some 131∧base≤b:=by
 obtain ⟨_,_,qs,ho,_⟩:=h
 exact ⟨Zk ho hb,(ho.blk b hb).1⟩
theorem XF.lt {fb:Nat} {v:Value} {ps:List PcA} (h:XF base w fb v ps):fb<w.heap.size:=WT h.tag
theorem XF.ext {fb:Nat} {v:Value} {ps:List PcA} (h:XF base w fb v ps) (hx:Ext S w w') (h1:¬ S fb) (h2:∀ b,v.ownBlock=some b→¬ S b) (h3:∀ b,base≤b→Ys w b=some 5→¬ S b):XF base w' fb v ps:=by
 obtain ⟨hl,hb,qs,ho,hn,hp⟩:=h
 exact ⟨hl,(hx.block fb (Array.getElem?_eq_some_iff.1 hb).1 h1).trans hb,qs,ho.ext hx h2,hn,fun i q p hq hp'=>(hp i q p hq hp').ext hx h3⟩
theorem Zb.tpb (h:Zb base w D A):Ys w D.pb=some 118:=YW h.blk
theorem Zb.lpb (h:Zb base w D A):D.pb<w.heap.size:=WT h.tpb
theorem Zb.lmf (h:Zb base w D A):D.mf<w.heap.size:=h.mfiles.lt
theorem Zb.lmb (h:Zb base w D A):D.mb<w.heap.size:=h.mbase.lt
theorem Zb.foot (h:Zb base w D A) {b:Nat} (hb:Wn D A b):base≤b∧b<w.heap.size∧Ys w b≠some 5:=by
 rcases hb with rfl|rfl|rfl|hb|hb|⟨f,hf,rfl|hb⟩
 ·exact ⟨h.lo,h.lpb,by rw[h.tpb];decide⟩
 ·exact ⟨h.lof,h.lmf,by rw[Xl h.mfiles];decide⟩
 ·exact ⟨h.lob,h.lmb,by rw[Xl h.mbase];decide⟩
 ·exact ⟨(h.ochg.blk b hb).1,(h.ochg.blk b hb).2,by rw[Zk h.ochg hb];decide⟩
 ·exact ⟨(h.osyn.blk b hb).1,(h.osyn.blk b hb).2,by rw[Zk h.osyn hb];decide⟩
 ·exact ⟨(h.file b hf).1,(h.file b hf).lt,by rw[(h.file b hf).tag];decide⟩
 ·exact ⟨((h.file f hf).row hb).2,WT ((h.file f hf).row hb).1,by rw[((h.file f hf).row hb).1];decide⟩
theorem Zb.ext (h:Zb base w D A) (hx:Ext S w w') (hn:∀ b,Wn D A b→¬ S b) (hu:∀ b,base≤b→Ys w b=some 5→¬ S b):Zb base w' D A where
 blk:=(hx.block _ h.lpb (hn _ (.inl rfl))).trans h.blk
 lo:=h.lo
 lof:=h.lof
 lob:=h.lob
 ne:=h.ne
 mfiles:=h.mfiles.ext hx (hn _ (.inr (.inl rfl)))
 mbase:=h.mbase.ext hx (hn _ (.inr (.inr (.inl rfl))))
 ochg:=h.ochg.ext hx (fun b hb=>hn b (.inr (.inr (.inr (.inl hb)))))
 osyn:=h.osyn.ext hx (fun b hb=>hn b (.inr (.inr (.inr (.inr (.inl hb))))))
 file f hf:=(h.file f hf).ext hx (hn _ (.inr (.inr (.inr (.inr (.inr ⟨f,hf,.inl rfl⟩)))))) (fun b hb=>hn b (.inr (.inr (.inr (.inr (.inr ⟨f,hf,.inr hb⟩)))))) hu
 apart:=h.apart
 ok:=h.ok
theorem Zb.below (h:Zb base w D A) (hx:Below w.heap.size w w'):Zb base w' D A :=
 h.ext (Ext.of_below (S:=fun _=>False) hx) (fun _ _=>id) (fun _ _ _=>id)
theorem Zb.alloc (h:Zb base w D A) (o:Obj):Zb base (w.alloc o) D A:=h.below ((Below.refl _ _).alloc (Nat.le_refl _) o)
theorem Zb.head (h:Zb base w D A) (hx:Ext S w w') (hS:∀ b,b<w.heap.size→S b→b=D.pb∨D.vc.ownBlock=some b∨D.vs.ownBlock=some b) {vc vs:Value} {chg:List Chg} {syn:List Int} {now:Int}
  (hb:w'.heap[D.pb]?=some (.cells #[.map (some D.mf),.map (some D.mb),vc,vs,.int .i64 now] 118 (0,0)))
  (hc:Own Chg.cells 4 126 base w' vc chg) (hs:Own Zi 1 3 base w' vs syn) (hok:∀ c∈chg,∀ f,c.f=some f→f∈A.ids∧c.name.size≤8) :
  Zb base w' { D with vc:=vc,vs:=vs } { A with chg:=chg,syn:=syn,now:=now }:=by
 have key:∀ b T,Ys w b=T→T≠some 118→T≠some 126→T≠some 3→b<w.heap.size→¬ S b:=by
  intro b T ht h1 h2 h3 hl hsb
  rcases hS b hl hsb with rfl|e|e
  ·exact h1 (ht.symm.trans h.tpb)
  ·exact h2 (ht.symm.trans (Zk h.ochg e))
  ·exact h3 (ht.symm.trans (Zk h.osyn e))
 exact {
  blk:=hb
  lo:=h.lo
  lof:=h.lof
  lob:=h.lob
  ne:=h.ne
  mfiles:=h.mfiles.ext hx (key _ _ (Xl h.mfiles) (by decide) (by decide) (by decide) h.lmf)
  mbase:=h.mbase.ext hx (key _ _ (Xl h.mbase) (by decide) (by decide) (by decide) h.lmb)
  ochg:=hc
  osyn:=hs
  file:=fun f hf=>(h.file f hf).ext hx (key _ _ (h.file f hf).tag (by decide) (by decide) (by decide) (h.file f hf).lt)
   (fun b hb=>key _ _ ((h.file f hf).row hb).1 (by decide) (by decide) (by decide) (WT ((h.file f hf).row hb).1)) (fun b hb ht=>key _ _ ht (by decide) (by decide) (by decide) (WT ht))
  apart:=h.apart
  ok:=⟨h.ok.inf,h.ok.inb,hok,h.ok.sz⟩ }
theorem Zb.names (h:Zb base w D A) (hx:Ext (·=D.mf) w w') {files:List (ByteArray × Nat)} (hm:Zq Value.string YX w' D.mf files) (hok:∀ n f,(n,f)∈files→f∈A.ids∧n.size≤8) :
  Zb base w' D { A with files:=files }:=by
 have key:∀ b T,Ys w b=some T→¬ b=D.mf:=fun b T ht=>ZO ht (Xl h.mfiles) (by simp)
 exact {
  blk:=(hx.block _ h.lpb (key _ _ h.tpb)).trans h.blk
  lo:=h.lo
  lof:=h.lof
  lob:=h.lob
  ne:=h.ne
  mfiles:=hm
  mbase:=h.mbase.ext hx (fun e=>h.ne e.symm)
  ochg:=h.ochg.ext hx (fun b hb=>key _ _ (Zk h.ochg hb))
  osyn:=h.osyn.ext hx (fun b hb=>key _ _ (Zk h.osyn hb))
  file:=fun f hf=>(h.file f hf).ext hx (key _ _ (h.file f hf).tag) (fun b hb=>key _ _ ((h.file f hf).row hb).1) (fun b hb ht=>key _ _ ht)
  apart:=h.apart
  ok:=⟨hok,h.ok.inb,h.ok.inc,h.ok.sz⟩ }
theorem Zb.turn (h:Zb base w D A) (hx:Ext S w w') {f:Nat} (hf:f∈A.ids) (hS:∀ b,b<w.heap.size→S b→b=f∨(D.rv f).ownBlock=some b) {v:Value} {ps:List PcA} (hi:XF base w' f v ps)
  (hv:∀ b,v.ownBlock=some b→(D.rv f).ownBlock=some b∨w.heap.size≤b) (hz:ZB ps≤1048576) :
  Zb base w' { D with rv:=fun g=>if g=f then v else D.rv g } { A with fs:=fun g=>if g=f then ps else A.fs g }:=by
 have key:∀ b T,Ys w b=T→T≠some 124→T≠some 131→b<w.heap.size→¬ S b:=by
  intro b T ht h1 h2 hl hsb
  rcases hS b hl hsb with rfl|e
  ·exact h1 (ht.symm.trans (h.file b hf).tag)
  ·exact h2 (ht.symm.trans ((h.file f hf).row e).1)
 refine {
  blk:=(hx.block _ h.lpb (key _ _ h.tpb (by decide) (by decide) h.lpb)).trans h.blk
  lo:=h.lo
  lof:=h.lof
  lob:=h.lob
  ne:=h.ne
  mfiles:=h.mfiles.ext hx (key _ _ (Xl h.mfiles) (by decide) (by decide) h.lmf)
  mbase:=h.mbase.ext hx (key _ _ (Xl h.mbase) (by decide) (by decide) h.lmb)
  ochg:=h.ochg.ext hx (fun b hb=>key _ _ (Zk h.ochg hb) (by decide) (by decide) (h.ochg.blk b hb).2)
  osyn:=h.osyn.ext hx (fun b hb=>key _ _ (Zk h.osyn hb) (by decide) (by decide) (h.osyn.blk b hb).2)
  file:=fun g hg=>?_
  apart:=fun g k hg hk hne b hb hb'=>?_
  ok:=⟨h.ok.inf,h.ok.inb,h.ok.inc,fun g hg=>?_⟩ }
 ·dsimp only
  split
  ·rename_i e;subst e;exact hi
  ·rename_i e
   refine (h.file g hg).ext hx (fun hs=>?_) (fun b hb hs=>?_) (fun b hb ht=>key _ _ ht (by decide) (by decide) (WT ht))
   ·rcases hS g (h.file g hg).lt hs with e2|e2
    ·exact e e2
    ·exact ZO (h.file g hg).tag ((h.file f hf).row e2).1 (by decide) rfl
   ·rcases hS b (WT ((h.file g hg).row hb).1) hs with rfl|e2
    ·exact ZO ((h.file g hg).row hb).1 (h.file b hf).tag (by decide) rfl
    ·exact h.apart g f hg hf e b hb e2
 ·dsimp only at hb hb'
  have old:∀ g,g∈A.ids→g≠f→∀ b,(D.rv g).ownBlock=some b→v.ownBlock=some b→False:=fun g hg hgf b hb hvb=>by
   rcases hv b hvb with e|e
   ·exact h.apart g f hg hf hgf b hb e
   ·have:=WT ((h.file g hg).row hb).1;omega
  split at hb
  ·rename_i e1
   rw[if_neg (fun e2=>hne (e1.trans e2.symm))] at hb'
   exact old k hk (fun e2=>hne (e1.trans e2.symm)) b hb' hb
  ·rename_i e1
   split at hb'
   ·exact old g hg e1 b hb hb'
   ·exact h.apart g k hg hk hne b hb hb'
 ·dsimp only
  split
  ·exact hz
  ·exact h.ok.sz g hg
theorem Zb.born (h:Zb base w D A) (hl:base≤w.heap.size):Zb base (w.alloc (.cells #[.slice none 0 0,.int .i64 0] 124)) { D with rv:=fun g=>if g=w.heap.size then .slice none 0 0 else D.rv g } { A with ids:=w.heap.size :: A.ids,fs:=fun g=>if g=w.heap.size then [] else A.fs g }:=by
 have h2:=h.alloc (.cells #[.slice none 0 0,.int .i64 0] 124)
 have hn:∀ f∈A.ids,f≠w.heap.size:=fun f hf=>Nat.ne_of_lt (h.file f hf).lt
 refine { h2 with file:=fun g hg=>?_,apart:=fun g k hg hk hne b hb hb'=>?_,ok:=?_ }
 ·rcases List.mem_cons.1 hg with rfl|hg
  ·dsimp only
   rw[if_pos rfl,if_pos rfl]
   exact ⟨hl,(MapKept.heap_alloc w _).1,[],Own.nil,rfl,fun i q p hq=>by simp at hq⟩
  ·dsimp only
   rw[if_neg (hn g hg),if_neg (hn g hg)]
   exact h2.file g hg
 ·dsimp only at hb hb'
  rcases List.mem_cons.1 hg with rfl|hg
  ·rw[if_pos rfl] at hb;cases hb
  ·rcases List.mem_cons.1 hk with rfl|hk
   ·rw[if_pos rfl] at hb';cases hb'
   ·rw[if_neg (hn g hg)] at hb
    rw[if_neg (hn k hk)] at hb'
    exact h.apart g k hg hk hne b hb hb'
 ·refine ⟨fun n f hf=>⟨List.mem_cons_of_mem _ (h.ok.inf n f hf).1,(h.ok.inf n f hf).2⟩,fun n f hf=>⟨List.mem_cons_of_mem _ (h.ok.inb n f hf).1,(h.ok.inb n f hf).2⟩,fun c hc f hf=>⟨List.mem_cons_of_mem _ (h.ok.inc c hc f hf).1,(h.ok.inc c hc f hf).2⟩,fun g hg=>?_⟩
  rcases List.mem_cons.1 hg with rfl|hg
  ·dsimp only
   rw[if_pos rfl]
   simp[ZB]
  ·dsimp only
   rw[if_neg (hn g hg)]
   exact h.ok.sz g hg
end
structure Ze (base:Nat) (w:World) (D:DSh) (A:Z4) (w':World) (D':DSh) (A':Z4):Prop where
 is_:Zb base w' D' A'
 pb:D'.pb=D.pb
 ext:Ext (Wn D A) w w'
 foot:∀ b,Wn D' A' b→Wn D A b∨w.heap.size≤b
theorem Ze.refl {base:Nat} {w:World} {D:DSh} {A:Z4} (h:Zb base w D A):Ze base w D A w D A:=⟨h,rfl,Ext.refl _ _,fun _ hb=>.inl hb⟩
theorem Ze.trans {base:Nat} {w1 w2 w3:World} {D1 D2 D3:DSh} {A1 A2 A3:Z4} (h:Ze base w1 D1 A1 w2 D2 A2) (k:Ze base w2 D2 A2 w3 D3 A3):Ze base w1 D1 A1 w3 D3 A3 where
 is_:=k.is_
 pb:=k.pb.trans h.pb
 ext:=h.ext.andThen k.ext (fun b hb hf=>(h.foot b hf).resolve_right (by omega))
 foot b hb:=by
  rcases k.foot b hb with e|e
  ·exact h.foot b e
  ·exact .inr (Nat.le_trans h.ext.size e)
theorem Ze.below {base:Nat} {w w':World} {D:DSh} {A:Z4} (h:Zb base w D A) (hb:Below w.heap.size w w'):Ze base w D A w' D A:=⟨h.below hb,rfl,Ext.of_below hb,fun _ hb=>.inl hb⟩
theorem Ze.frame {base B:Nat} {w0 w w':World} {D D':DSh} {A A':Z4} (h:Ze base w D A w' D' A') (hi:Zb base w D A) (hb:Below B w0 w) (hB:B≤base) (hs:B≤w.heap.size):Below B w0 w' :=
 Ext.new hb h.ext (fun i hi' _ hp=>by have:=(hi.foot hp).1;omega) hs
end Go.Proofs.YtgmdimbiipemhaaGreatDoor
namespace Go.Proofs.YtgmdimbiipemhaaGreatDoor
open Go.RowKit Go.Deep
theorem Wt:Tryz.prog.underlying 115=some (.map 9 120):=by kernel_rfl
theorem ST (w:World):(zeroValue 120).run Tryz.prog w=.ok (.pointer none) w:=by kernel_rfl
def ZU (c:Chg) (l:List (ByteArray × Nat)):List (ByteArray × Nat) :=
 match c.f with
 | none=>Xs l c.old
 | some f=>Xd (Xs l c.old) c.name f
attribute [local go_sem] Zq.alloc Zq.drew Zq.setCell
attribute [local go_sem] Z3E Z1Z RI Z3r Z3Q Z26 RU Z3N
theorem Z1E (c:Chg) (mf:Nat) (l:List (ByteArray × Nat)) (w:World) (h:Zq Value.string YX w mf l) :
  Calls Tryz.prog 118 #[.agg #[.int .i64 c.at_,.string c.name,.string c.old,Wk c.f],.map (some mf)] w fun e w' =>
   e=.returned (.tuple #[])∧Zq Value.string YX w' mf (ZU c l)∧Ext (·=mf) w w':=by
 obtain ⟨cat,nm,od,f⟩:=c
 have hdel:∀ W,Zq Value.string YX W mf l→(Builtin.delete_ #[115,9] 0 #[.map (some mf),.string od]).run Tryz.prog W=.ok (.tuple #[]) (YP W mf (Yb l od)) :=
  fun W hW=>hW.delete Vc Wt od
 have h1:Zq Value.string YX (w.alloc (.cells #[.int .i64 cat,.string nm,.string od,Wk f] 126)) mf l:=h.alloc _
 have h2:=h1.del od
 have hx:Ext (·=mf) w (YP (w.alloc (.cells #[.int .i64 cat,.string nm,.string od,Wk f] 126)) mf (Yb l od)):=((Ext.refl (fun x=>x=mf) w).alloc _).mapDel (.inl rfl) _
 cases f with
 | none =>
  unfold Wk at *
  simp only[Option.map_none] at *
  go_enter Tryz.func118,Tryz.ntmps118
  go_wp2
  go_end0
  exact ⟨rfl,h2,hx⟩
 | some f =>
  have hu:∀ W,Zq Value.string YX W mf (Xs l od)→(Instr.mapUpdate 115 (.map (some mf)) (.string nm) (.pointer (some ⟨f,0,none⟩))).run Tryz.prog W=.ok () (YE W mf (Yb (Xs l od) nm) (.string nm) (YX f)) :=
   fun W hW=>hW.update Vc Wt nm (YX f)
  unfold Wk at *
  simp only[Option.map_some] at *
  have h3:=h2.put nm f
  have hx3:=hx.mapPut (b:=mf) (.inl rfl) (Yb (Xs l od) nm) (.string nm) (YX f)
  go_enter Tryz.func118,Tryz.ntmps118
  go_wp2
  go_end0
  exact ⟨rfl,h3,hx3⟩
def Xa:Z4:=⟨[],[],[],[],0,[],fun _=>[]⟩
theorem Z0Z {base:Nat} (w:World) (hb:base≤w.heap.size):Calls Tryz.prog 28 #[] w fun e w' =>
  ∃ D:DSh,e=.returned (.pointer (some ⟨D.pb,0,none⟩))∧Zb base w' D Xa∧Below w.heap.size w w'∧∀ b,Wn D Xa b→w.heap.size≤b:=by
 have hmm:=@run_makeMap Tryz.prog
 have h1:Zq Value.string YX (w.alloc (.map #[] 0)) w.heap.size ([]:List (ByteArray × Nat)):=Zq.made w
 have h2:Zq Value.string YX ((w.alloc (.map #[] 0)).alloc (.map #[] 0)) (w.heap.size+1) ([]:List (ByteArray × Nat)):=by
  have:=Zq.made (ek:=Value.string) (ev:=YX) (w.alloc (.map #[] 0))
  rwa [World.size_alloc] at this
 have hB:=(((Below.refl w.heap.size w).alloc (Nat.le_refl _) (.map #[] 0)).alloc (by simp) (.map #[] 0)).alloc (by simp;omega) (.cells #[.map (some w.heap.size),.map (some (w.heap.size+1)),.slice none 0 0,.slice none 0 0,.int .i64 0] 118)
 go_enter Tryz.func28,Tryz.ntmps28
 go_wp2
 go_ret
 refine ⟨⟨w.heap.size+2,w.heap.size,w.heap.size+1,.slice none 0 0,.slice none 0 0,fun _=>.slice none 0 0⟩,rfl,?_,hB,?_⟩
 ·exact {
   blk:=by
    have:=(MapKept.heap_alloc ((w.alloc (.map #[] 0)).alloc (.map #[] 0)) (.cells #[.map (some w.heap.size),.map (some (w.heap.size+1)),.slice none 0 0,.slice none 0 0,.int .i64 0] 118)).1
    simp only[World.size_alloc] at this
    exact this
   lo:=by dsimp only;omega
   lof:=by dsimp only;omega
   lob:=by dsimp only;omega
   ne:=by dsimp only;omega
   mfiles:=(h1.alloc _).alloc _
   mbase:=h2.alloc _
   ochg:=Own.nil
   osyn:=Own.nil
   file:=fun f hf=>by cases hf
   apart:=fun f g hf=>by cases hf
   ok:=⟨fun n f hf=>(by cases hf),fun n f hf=>(by cases hf),fun c hc=>(by cases hc),fun g hg=>(by cases hg)⟩ }
 ·intro b hb
  rcases hb with rfl|rfl|rfl|hb|hb|⟨f,hf,_⟩
  ·dsimp only;omega
  ·exact Nat.le_refl _
  ·dsimp only;omega
  ·cases hb
  ·cases hb
  ·cases hf
theorem Z3w:(Tryz.prog.info? 126).map (fun i=>(i.zero,i.size,i.bytes))=some (some (.agg #[.int .i64 0,.string ⟨#[]⟩,.string ⟨#[]⟩,.pointer none]),4,48):=by kernel_rfl
theorem Z0e {c:Chg} {l:List (ByteArray × Nat)} {n:ByteArray} {g:Nat} (h:(n,g)∈ZU c l):(n,g)∈l∨(n=c.name∧c.f=some g):=by
 unfold ZU at h
 have hdel:∀ {x},x∈Xs l c.old→x∈l:=fun hx=>(Ss l c.old).subset hx
 cases hf:c.f with
 | none=>rw[hf] at h;exact .inl (hdel h)
 | some f =>
  rw[hf] at h
  dsimp only at h
  cases hi:Yb (Xs l c.old) c.name with
  | none =>
   rw[Uo hi] at h
   rcases List.mem_append.1 h with h|h
   ·exact .inl (hdel h)
   ·simp at h;exact .inr ⟨h.1,by rw[h.2]⟩
  | some i =>
   rw[Tt hi] at h
   rcases List.mem_or_eq_of_mem_set h with h|h
   ·exact .inl (hdel h)
   ·cases h;exact .inr ⟨rfl,rfl⟩
def Zz (c:Chg) (A:Z4):Z4:={ A with now:=A.now+1,chg:=A.chg++[{ c with at_:=A.now+1 }],files:=ZU c A.files }
theorem Qq {base:Nat} {w:World} {D:DSh} {A:Z4} (h:Zb base w D A) (hbw:base≤w.heap.size) (c:Chg) (hc:∀ f,c.f=some f→f∈A.ids∧c.name.size≤8) (hn0:0≤A.now) (hn1:A.now≤1000000000) (hl:A.chg.length≤1000000000) :
  Calls Tryz.prog 69 #[.pointer (some ⟨D.pb,0,none⟩),.agg #[.int .i64 c.at_,.string c.name,.string c.old,Wk c.f]] w fun e w' =>
   e=.returned (.tuple #[])∧∃ D',Ze base w D A w' D' (Zz c A):=by
 obtain ⟨i0,hi,hz0,hz1,hz2⟩:=info_parts Z3w
 obtain ⟨cat,nm,od,f⟩:=c
 obtain ⟨pv,hpv⟩:=Je (Wk f)
 rw[hpv]
 have HPV:=Lib.hid hpv
 clear hpv
 have HC:=Lib.hid hc
 clear hc
 dsimp only at HC ⊢
 have h1:=h.alloc (.cells #[.int .i64 cat,.string nm,.string od,pv] 126)
 have q0:(w.alloc (.cells #[.int .i64 cat,.string nm,.string od,pv] 126)).heap[w.heap.size]?=some (.cells #[.int .i64 cat,.string nm,.string od,pv] 126 (0,0)):=(MapKept.heap_alloc w _).1
 have hpb:=h.lpb
 have HX1:=Jh ((Ext.refl (Wn D A) w).alloc (.cells #[.int .i64 cat,.string nm,.string od,pv] 126))
 have HH0:=Lib.hid h
 have hs1:(w.alloc (.cells #[.int .i64 cat,.string nm,.string od,pv] 126)).heap.size=w.heap.size+1:=by simp
 obtain ⟨w1,hw1⟩:=Je (w.alloc (.cells #[.int .i64 cat,.string nm,.string od,pv] 126))
 rw[hw1] at h1 q0 hs1 HX1
 have p0:=h1.blk
 have p1:=Joins.block_setCell (i:=4) p0 (.int .i64 (A.now+1))
 have h2:Zb base (w1.setCell ⟨D.pb,4,none⟩ (.int .i64 (A.now+1))) D { A with now:=A.now+1 } :=
  h1.head (S:=(·=D.pb)) (YO _ _ _ _) (fun b _ hb=>.inl hb) p1 (h1.ochg.ext (YO _ _ _ _) (fun b hb e=>ZO (Zk h1.ochg hb) h1.tpb (by decide) e))
   (h1.osyn.ext (YO _ _ _ _) (fun b hb e=>ZO (Zk h1.osyn hb) h1.tpb (by decide) e)) h1.ok.inc
 have q1:(w1.setCell ⟨D.pb,4,none⟩ (.int .i64 (A.now+1))).heap[w.heap.size]?=some (.cells #[.int .i64 cat,.string nm,.string od,pv] 126 (0,0)) :=
  ((YO w1 D.pb 4 _).block _ (by omega) (by omega)).trans q0
 have HX2:=Jh (HX1.out.setCell (p:=⟨D.pb,4,none⟩) (.inr (.inl rfl)) (.int .i64 (A.now+1)))
 obtain ⟨w2,hw2⟩:=Je (w1.setCell ⟨D.pb,4,none⟩ (.int .i64 (A.now+1)))
 have hs2:w2.heap.size=w.heap.size+1:=by rw[←hw2,World.size_setCell,hs1]
 rw[hw2] at p1 h2 q1 HX2
 have q2:=Joins.block_setCell (i:=0) q1 (.int .i64 (A.now+1))
 have h3:Zb base (w2.setCell ⟨w.heap.size,0,none⟩ (.int .i64 (A.now+1))) D { A with now:=A.now+1 } :=
  h2.ext (YO _ _ _ _) (fun b hb e=>by
   have h9:Wn D A b:=hb
   have:=(HH0.out.foot h9).2.1
   omega) (fun b hb ht e=>by rw[e,YW q1] at ht;cases ht)
 have HX3:=Jh (HX2.out.setCell (p:=⟨w.heap.size,0,none⟩) (.inl (Nat.le_refl _)) (.int .i64 (A.now+1)))
 obtain ⟨w3,hw3⟩:=Je (w2.setCell ⟨w.heap.size,0,none⟩ (.int .i64 (A.now+1)))
 have hs3:w3.heap.size=w.heap.size+1:=by rw[←hw3,World.size_setCell,hs2]
 rw[hw3] at h3 q2 HX3
 have k0:=Joins.cell_of_block p0 4
 have k1:=Joins.unfrozen_of_block p0 4
 have k2:=Joins.cell_of_block p1 4
 have k3:=Joins.cell_of_block q1 0
 have k4:=Joins.unfrozen_of_block q1 0
 have HP0:=Lib.hid p0
 have HP1:=Lib.hid p1
 have HQ1:=Lib.hid q1
 have HQ2:=Lib.hid q2
 have HH3:=Lib.hid h3
 clear h h1 h2 h3 p0 p1 q0 q1 q2
 simp only[List.getElem?_toArray,Array.getElem?_setIfInBounds,List.size_toArray,List.length_cons,List.length_nil,List.getElem?_cons_succ,List.getElem?_cons_zero,Nat.reduceAdd,Nat.reduceLT,if_true] at k0 k2 k3
 go_enter Tryz.func69,Tryz.ntmps69
 have HS3:=Lib.hid hs3
 have hbw3:base≤w3.heap.size:=by omega
 have hw0:w.heap.size<w3.heap.size:=by omega
 clear hs1 hs2 hs3
 go_upto_region 3 with fail
 clear k0 k1 k2 k3 k4 hw1 hw2 hw3 HP0 HP1 HQ1 HX1 HX2
 obtain ⟨va,vcap,hvc⟩:∃ va vcap,D.vc=.slice va A.chg.length vcap:=by
  rcases HH0.out.ochg.eq_slice with ⟨e,e2⟩|⟨g,c,e,_⟩
  ·exact ⟨none,0,by rw[e,e2];rfl⟩
  ·exact ⟨_,_,e⟩
 have b3:=HH3.out.blk
 have c2:=Joins.cell_of_block b3 2
 have c0:=Joins.cell_of_block b3 0
 have f2:=Joins.unfrozen_of_block b3 2
 have d0:=Joins.cell_of_block HQ2.out 0
 have d1:=Joins.cell_of_block HQ2.out 1
 have d2:=Joins.cell_of_block HQ2.out 2
 have d3:=Joins.cell_of_block HQ2.out 3
 simp only[List.getElem?_toArray,Array.getElem?_setIfInBounds,List.size_toArray,List.length_cons,List.length_nil,List.getElem?_cons_succ,List.getElem?_cons_zero,Nat.reduceAdd,Nat.reduceLT,if_true,hvc] at c2 c0 d0 d1 d2 d3
 try simp only[List.setIfInBounds_toArray,List.set_cons_zero,List.getElem?_toArray,List.getElem?_cons_succ,List.getElem?_cons_zero] at d0 d1 d2 d3
 have hown3:=HH3.out.ochg
 rw[hvc] at hown3
 have hnb:∀ j u,(Chg.cells ⟨A.now+1,nm,od,f⟩)[j]?=some u→(w3.alloc (.cells #[.int .i64 (A.now+1),.string nm,.string od,pv] 126)).cell? ⟨w3.heap.size,j,none⟩=some u:=by
  intro j u hj
  rw[World.cell?_alloc_at _ _ _ _ rfl,←hj,Chg.cells]
  simp[HPV.out]
 have HNB:=Lib.hid hnb
 have hown4:=hown3.alloc (.cells #[.int .i64 (A.now+1),.string nm,.string od,pv] 126)
 have HOW:=Lib.hid hown4
 have hlpb:=HH3.out.lpb
 have hnr:¬ (Value.slice va A.chg.length vcap).ownBlock=some D.pb:=fun e=>ZO (Zk hown3 e) HH3.out.tpb (by decide) rfl
 have hnq:¬ (Value.slice va A.chg.length vcap).ownBlock=some w.heap.size:=fun e=>by
  have:=HH0.out.ochg.blk w.heap.size (by rw[hvc];exact e)
  omega
 have hall:∀ w5 w6:World,w5.heap=(w3.alloc (.cells #[.int .i64 (A.now+1),.string nm,.string od,pv] 126)).heap→Ext (fun b=>(Value.slice va A.chg.length vcap).ownBlock=some b) w5 w6→w6.heap[D.pb]?=some (.cells #[.map (some D.mf),.map (some D.mb),.slice va A.chg.length vcap,D.vs,.int .i64 (A.now+1)] 118 (0,0)):=fun w5 w6 h5 hx6=>by
  rw[hx6.block D.pb (by rw[h5];simp;omega) hnr,h5,Below.heap_alloc _ _ _ hlpb,b3,hvc]
 have HALL:=Lib.hid hall
 have HVC:=Lib.hid hvc
 have HNR:=Lib.hid hnr
 have HNQ:=Lib.hid hnq
 clear hnb hown3 hown4 hnr hall hvc hnq b3
 go_region_law (refine WK (v:=.slice va A.chg.length vcap) (l:=A.chg) rfl (.tmp 20) (.tmp 22) 116 rfl i0 _ 48 Tryz.underlying116 hi hz0 hz1 hz2 rfl (by omega) Chg.len Chg.one rfl HOW.out ⟨A.now+1,nm,od,f⟩ w3.heap.size 1 rfl HNB.out (by unfold maxLen;omega) (by omega) (by simp;omega) ?_;intro v' w6 hown6 hx6 hnw6;obtain ⟨g6,cp6,rfl⟩:∃ g c,v'=.slice (some ⟨g,0,none⟩) (A.chg.length+1) c:=(by rcases hown6.eq_slice with ⟨_,h⟩|⟨g,c,h,_⟩;(simp at h);exact ⟨g,c,by simpa using h⟩);have hb6:=HALL.out _ w6 (by rfl) hx6;have g1:=Joins.unfrozen_of_block hb6 2;have g2:=Joins.cell_of_block hb6 2)
 all_goals
  have hx7:Ext (fun b=>b=D.pb∨D.vc.ownBlock=some b) w3 (w6.setCell ⟨D.pb,2,none⟩ (.slice (some ⟨g6,0,none⟩) (A.chg.length+1) cp6)) :=
   Ext.setCell ((((Ext.refl _ w3).alloc (.cells #[.int .i64 (A.now+1),.string nm,.string od,pv] 126))).andThen (T:=fun b=>(Value.slice va A.chg.length vcap).ownBlock=some b) ⟨hx6.os,hx6.tape,hx6.output,hx6.size,hx6.block⟩ (fun b _ hb=>.inr (by rw[HVC.out];exact hb))) (.inr (.inl rfl)) _
  have hblk:(w6.setCell ⟨D.pb,2,none⟩ (.slice (some ⟨g6,0,none⟩) (A.chg.length+1) cp6)).heap[D.pb]?=some (.cells #[.map (some D.mf),.map (some D.mb),.slice (some ⟨g6,0,none⟩) (A.chg.length+1) cp6,D.vs,.int .i64 (A.now+1)] 118 (0,0)):=by
   rw[Joins.block_setCell hb6];rfl
  have h7:=HH3.out.head hx7 (fun b _ hb=>hb.elim .inl (fun e=>.inr (.inl e))) hblk (hown6.ext (YO _ _ _ _) (fun b hb e=>ZO (Zk hown6 hb) (YW hb6) (by decide) e))
   (HH3.out.osyn.ext hx7 (fun b hb hs=>by
    rcases hs with rfl|e
    ·exact ZO (Zk HH3.out.osyn hb) HH3.out.tpb (by decide) rfl
    ·exact ZO (Zk HH3.out.osyn hb) (Zk HH3.out.ochg e) (by decide) rfl))
   (fun c hc f' hf'=>by
    rcases List.mem_append.1 hc with hc|hc
    ·exact HH3.out.ok.inc c hc f' hf'
    ·simp at hc;subst hc;exact HC.out f' hf')
  have q7:=(hx7.block w.heap.size hw0 (fun e=>by
   rcases e with e|e
   ·omega
   ·exact HNQ.out (by rw[←HVC.out];exact e))).trans HQ2.out
  have hg6:∀ b,(Value.slice (some ⟨g6,0,none⟩) (A.chg.length+1) cp6).ownBlock=some b→D.vc.ownBlock=some b∨w.heap.size≤b:=fun b hb=>by
   rcases hnw6 b hb with e|e
   ·exact .inl (by rw[HVC.out];exact e)
   ·refine .inr (Nat.le_trans ?_ e)
    simp
    omega
  have hs7:=hx7.size
  obtain ⟨w7,hw7⟩:=Je (w6.setCell ⟨D.pb,2,none⟩ (.slice (some ⟨g6,0,none⟩) (A.chg.length+1) cp6))
  rw[hw7] at h7 hx7 q7 hs7 ⊢
  have HX7:=Lib.hid hx7
  have HG6:=Lib.hid hg6
  have d0:=Joins.cell_of_block q7 0
  have d1:=Joins.cell_of_block q7 1
  have d2:=Joins.cell_of_block q7 2
  have d3:=Joins.cell_of_block q7 3
  have c0:=Joins.cell_of_block h7.blk 0
  simp only[List.getElem?_toArray,Array.getElem?_setIfInBounds,List.size_toArray,List.length_cons,List.length_nil,List.getElem?_cons_succ,List.getElem?_cons_zero,Nat.reduceAdd,Nat.reduceLT,if_true] at d0 d1 d2 d3 c0
  try simp only[List.setIfInBounds_toArray,List.set_cons_zero,List.getElem?_toArray,List.getElem?_cons_succ,List.getElem?_cons_zero] at d0 d1 d2 d3
  have HM7:=Lib.hid h7.mfiles
  have H7:=Lib.hid h7
  have hap:=fun W h=>Z1E ⟨A.now+1,nm,od,f⟩ D.mf A.files W h
  dsimp only at hap
  rw[HPV.out] at hap
  have HAP:=Lib.hid hap
  have n1:=ZO h7.tpb (Xl h7.mfiles) (by decide)
  have n2:=ZO (YW q7) (Xl h7.mfiles) (by decide)
  clear hw7 hx7 hg6 hown6 hx6 hnw6 hb6 g1 g2 q7 h7 hap hblk
  go_upto_region 4 with fail
  go_region_held3 (fun W=>W.cell? ⟨w.heap.size,0,none⟩=some (.int .i64 (A.now+1))∧W.cell? ⟨w.heap.size,1,none⟩=some (.string nm)∧W.cell? ⟨w.heap.size,2,none⟩=some (.string od)∧W.cell? ⟨w.heap.size,3,none⟩=some pv∧W.cell? ⟨D.pb,0,none⟩=some (.map (some D.mf))) (first|exact ⟨d0,d1,d2,d3,c0⟩|exact ⟨Ext.keep hx8 d0 n2,Ext.keep hx8 d1 n2,Ext.keep hx8 d2 n2,Ext.keep hx8 d3 n2,Ext.keep hx8 c0 n1⟩) ((go_at_call 118;((with_reducible refine (HAP.out _ HM7.out.drew).mono ?_);rintro e w8 ⟨rfl,hm8,hx8⟩;rw[Z6Q] at hx8)))
  all_goals
   have h8:=H7.out.names hx8 hm8 (fun n g hg=>by
    rcases Z0e hg with e|⟨rfl,e⟩
    ·exact HH0.out.ok.inf n g e
    ·exact HC.out g e)
   have hT:Ze base w D A w8 { D with vc:=.slice (some ⟨g6,0,none⟩) (A.chg.length+1) cp6,vs:=D.vs } (Zz ⟨cat,nm,od,f⟩ A):={
    is_:=h8
    pb:=rfl
    ext:=(HX3.out.andThen HX7.out (fun b _ hb=>hb.elim .inl (fun e=>.inr (.inr (.inr (.inl e)))))).andThen hx8 (fun b _ hb=>.inr (.inl hb))
    foot:=fun b hb=>by
     rcases hb with e|e|e|e|e|⟨g,hg,e⟩
     ·exact .inl (.inl e)
     ·exact .inl (.inr (.inl e))
     ·exact .inl (.inr (.inr (.inl e)))
     ·exact (HG6.out b e).elim (fun e=>.inl (.inr (.inr (.inr (.inl e))))) .inr
     ·exact .inl (.inr (.inr (.inr (.inr (.inl e)))))
     ·exact .inl (.inr (.inr (.inr (.inr (.inr ⟨g,hg,e⟩))))) }
   have HT:=Lib.hid hT
   clear hm8 hx8 h8 hT d0 d1 d2 d3 c0
   first
    | (go_wp2_with fail;go_end0;exact ⟨rfl,_,HT.out⟩)
    | (go_end0;exact ⟨rfl,_,HT.out⟩)
def okB (c:UInt8):Bool:=decide (97≤c.toNat∧c.toNat≤122)
def Yn (s:ByteArray):Bool:=s.data.toList.all okB && decide (1≤s.size∧s.size≤8)
theorem Q4 {s:ByteArray} (h:Yn s=true):s.size≤8:=by
 simp[Yn] at h
 exact h.2.2
theorem Z0I {s:ByteArray} {i:Nat} (hi:i<s.size) (h:okB (s[i]'hi)=false):Yn s=false:=by
 have:s.data.toList.all okB=false:=by
  rw[List.all_eq_false]
  exact ⟨s[i]'hi,by rw[show s[i]'hi=s.data.toList[i]'(by simpa using hi) from rfl];exact List.getElem_mem _,by simp[h]⟩
 simp[Yn,this]
theorem Z7t {s:ByteArray} (h:∀ i (hi:i<s.size),okB (s[i]'hi)=true):Yn s=decide (1≤s.size∧s.size≤8):=by
 have:s.data.toList.all okB=true:=by
  rw[List.all_eq_true]
  intro x hx
  obtain ⟨i,hi,rfl⟩:=List.mem_iff_getElem.1 hx
  exact h i (by simpa using hi)
 simp[Yn,this]
theorem QU {B:Nat} {w w':World} (h:Below B w w') (hB:B≤w'.heap.size) (s:ByteArray) (p:Nat):Below B w (w'.iter s p):=h.alloc hB _
theorem QG (s:ByteArray) (w:World):Calls Tryz.prog 68 #[.string s] w fun e w'=>e=.returned (.bool (Yn s))∧Below w.heap.size w w':=by
 have hrs:=fun w=>run_range_string (P:=Tryz.prog) w 9 s Su
 go_enter Tryz.func68,Tryz.ntmps68
 go_wp2_with fail
 go_loopg [4] s.size (fun g cv wx=>∃ k:Nat,g=s.size - k∧k≤s.size∧wx=w.iter s k∧Hid (∀ i (hi:i<s.size),i<k→okB (s[i]'hi)=true))
 case atStart=>exact ⟨0,by omega,by omega,rfl,Jh (fun i _ h=>absurd h (by omega))⟩
 case round =>
  obtain ⟨k,hg,hk,rfl,hU⟩:=hrel
  by_cases hkl:k<s.size
  ·have hb:Below w.heap.size w (w.iter s (k+(Utf8.decode s k).2)):=QU (Below.refl _ _) (Nat.le_refl _) _ _
   by_cases ha:(s[k]'hkl).toNat<128
   ·have hnx:=fun ty=>run_next_ascii (P:=Tryz.prog) w s k ty hkl ha
    have hdc:=decode_ascii s k hkl ha
    rw[hdc] at hb
    by_cases h1:(s[k]'hkl).toNat<97
    ·have hr:Yn s=false:=Z0I hkl (by simp[okB];omega)
     go_wp2
     go_ret
     exact ⟨by first|rfl|(rw[hr];rfl),hb⟩
    ·by_cases h2:122<(s[k]'hkl).toNat
     ·have hr:Yn s=false:=Z0I hkl (by simp[okB];omega)
      go_wp2
      go_ret
      exact ⟨by first|rfl|(rw[hr];rfl),hb⟩
     ·have ho:okB (s[k]'hkl)=true:=by simp[okB];omega
      go_wp2
      go_roundg (s.size - (k+1))
      case measure=>omega
      case rel=>exact ⟨k+1,rfl,by omega,rfl,Jh (fun i hi hik=>by
       by_cases h3:i<k
       ·exact hU.out i hi h3
       ·obtain rfl:i=k:=by omega
        exact ho)⟩
   ·have hnx:=fun ty=>run_next_any (P:=Tryz.prog) w s k ty hkl
    have hdc:=decode_high s k hkl (by omega)
    have hr:Yn s=false:=Z0I hkl (by simp[okB];omega)
    have h1:¬ ((Utf8.decode s k).1:Int)<97:=by omega
    have h2:(122:Int)<((Utf8.decode s k).1:Int):=by omega
    go_wp2
    go_ret
    exact ⟨by first|rfl|(rw[hr];rfl),hb⟩
  ·obtain rfl:k=s.size:=by omega
   have hnx:=fun ty=>run_next_end (P:=Tryz.prog) w s s.size ty (by omega)
   have hr:=Z7t (fun i hi=>hU.out i hi hi)
   have hb:Below w.heap.size w (w.iter s s.size):=QU (Below.refl _ _) (Nat.le_refl _) _ _
   by_cases h1:1≤s.size
   ·have h3:(1:Int)≤(s.size:Int):=by omega
    by_cases h2:s.size≤8
    ·have h4:(s.size:Int)≤8:=by omega
     have hr2:Yn s=true:=by rw[hr];exact decide_eq_true ⟨h1,h2⟩
     clear hr
     go_wp2
     go_ret
     exact ⟨by first|rfl|simp[hr2,h4],hb⟩
    ·have h4:¬ (s.size:Int)≤8:=by omega
     have hr2:Yn s=false:=by rw[hr];exact decide_eq_false (fun h=>h2 h.2)
     clear hr
     go_wp2
     go_ret
     exact ⟨by first|rfl|simp[hr2,h4],hb⟩
   ·have h3:¬ (1:Int)≤(s.size:Int):=by omega
    have hr2:Yn s=false:=by rw[hr];exact decide_eq_false (fun h=>h1 h.1)
    clear hr
    go_wp2
    go_ret
    exact ⟨by first|rfl|simp[hr2,h3],hb⟩
def Sv (A:Z4) (name:ByteArray):Value:=.tuple #[Wk (Z8 A.files name),.int .i64 (if (Z8 A.files name).isSome then 0 else 61)]
theorem UV {base:Nat} {w:World} {D:DSh} {A:Z4} (h:Zb base w D A) (name:ByteArray) :
  Calls Tryz.prog 70 #[.pointer (some ⟨D.pb,0,none⟩),.string name] w fun e w'=>e=.returned (Sv A name)∧w'=w:=by
 have c0:=Joins.cell_of_block h.blk 0
 simp only[List.getElem?_toArray,List.getElem?_cons_zero] at c0
 unfold Sv
 cases hg:Z8 A.files name with
 | none =>
  have hl:(Instr.lookup 115 (.map (some D.mf)) (.string name) false).run Tryz.prog w=.ok (.pointer none) w:=by
   have:=h.mfiles.lookup Vc Wt ST name
   rw[hg] at this
   exact this
  have HH:=Lib.hid h
  clear h
  go_enter Tryz.func70,Tryz.ntmps70
  go_wp2
  refine bodyPost_ret (results_tmp2 rfl _ _ _) rfl ?_
  exact ⟨rfl,rfl⟩
 | some f =>
  have hl:(Instr.lookup 115 (.map (some D.mf)) (.string name) false).run Tryz.prog w=.ok (.pointer (some ⟨f,0,none⟩)) w:=by
   have:=h.mfiles.lookup Vc Wt ST name
   rw[hg] at this
   exact this
  have HH:=Lib.hid h
  clear h
  go_enter Tryz.func70,Tryz.ntmps70
  go_wp2
  refine bodyPost_ret (results_tmp2 rfl _ _ _) rfl ?_
  exact ⟨rfl,rfl⟩
theorem Zq.len {K V:Type} [DecidableEq K] {ek:K→Value} {ev:V→Value} {w:World} {b:Nat} {l:List (K × V)} {P:Program} {mt kt et:TypeId} (h:Zq ek ev w b l) (hm:P.underlying mt=some (.map kt et)) (ty:TypeId) :
  (Builtin.len_ #[mt] ty #[.map (some b)]).run P w=.ok (.int .i64 l.length) w:=by
 obtain ⟨hn,es,clock,h1,h2,h3,h4⟩:=h
 have hs:es.size=l.length:=by
  have:=congrArg List.length h2
  simpa using this
 simp[Builtin.len_,run_underlying hm,Ym h1,goInt,Result.andThen,hs]
theorem RT {base:Nat} {w:World} {D:DSh} {A:Z4} (h:Zb base w D A) :
  Calls Tryz.prog 37 #[.pointer (some ⟨D.pb,0,none⟩)] w fun e w'=>e=.returned (.int .i64 A.now)∧w'=w:=by
 have c0:=Joins.cell_of_block h.blk 4
 simp only[List.getElem?_toArray,List.getElem?_cons_zero,List.getElem?_cons_succ] at c0
 have HH:=Lib.hid h
 clear h
 go_enter Tryz.func37,Tryz.ntmps37
 go_wp2
 go_ret
 exact ⟨rfl,rfl⟩
def Y4 (A:Z4) (n:ByteArray):Int:=if Yn n=false then 63 else if (Z8 A.files n).isSome then 1 else if A.files.length=8 then 62 else 0
def ZQ (fb:Nat) (A:Z4):Z4:={ A with ids:=fb :: A.ids,fs:=fun g=>if g=fb then [] else A.fs g }
theorem Ze.born {base:Nat} {w:World} {D:DSh} {A:Z4} (h:Zb base w D A) (hl:base≤w.heap.size) :
  Ze base w D A (w.alloc (.cells #[.slice none 0 0,.int .i64 0] 124)) { D with rv:=fun g=>if g=w.heap.size then .slice none 0 0 else D.rv g } (ZQ w.heap.size A) where
 is_:=h.born hl
 pb:=rfl
 ext:=(Ext.refl _ _).alloc _
 foot b hb:=by
  have hn:∀ f∈A.ids,f≠w.heap.size:=fun f hf=>Nat.ne_of_lt (h.file f hf).lt
  rcases hb with e|e|e|e|e|⟨g,hg,e⟩
  ·exact .inl (.inl e)
  ·exact .inl (.inr (.inl e))
  ·exact .inl (.inr (.inr (.inl e)))
  ·exact .inl (.inr (.inr (.inr (.inl e))))
  ·exact .inl (.inr (.inr (.inr (.inr (.inl e)))))
  ·rcases List.mem_cons.1 hg with rfl|hg
   ·dsimp only at e
    rw[if_pos rfl] at e
    rcases e with rfl|e
    ·exact .inr (Nat.le_refl _)
    ·cases e
   ·dsimp only at e
    rw[if_neg (hn g hg)] at e
    exact .inl (.inr (.inr (.inr (.inr (.inr ⟨g,hg,e⟩)))))
theorem Sw {base:Nat} {w:World} {D:DSh} {A:Z4} (h:Zb base w D A) (hbw:base≤w.heap.size) (name:ByteArray) (hn0:0≤A.now) (hn1:A.now≤1000000000) (hl:A.chg.length≤1000000000) :
  Calls Tryz.prog 29 #[.pointer (some ⟨D.pb,0,none⟩),.string name] w fun e w'=>e=.returned (.int .i64 (Y4 A name)) ∧
   ((Y4 A name≠0∧Ze base w D A w' D A)∨(Y4 A name=0∧∃ fb D',fb∉A.ids∧Ze base w D A w' D' (Zz ⟨0,name,⟨#[]⟩,some fb⟩ (ZQ fb A)))):=by
 go_enter Tryz.func29,Tryz.ntmps29
 go_wp2_with fail
 refine (QG name _).mono ?_
 rintro e w1 ⟨rfl,b1⟩
 have hT1:=Ze.below h b1
 have h1:=hT1.is_
 have hb1:base≤w1.heap.size:=Nat.le_trans hbw b1.size
 cases hr:Yn name with
 | false =>
  have hc:Y4 A name=63:=by simp[Y4,hr]
  have HT:=Lib.hid hT1
  clear h h1 hT1 b1
  go_wp2
  go_ret
  exact ⟨by rw[hc];rfl,.inl ⟨by rw[hc];decide,HT.out⟩⟩
 | true =>
  have c0:=Joins.cell_of_block h1.blk 0
  simp only[List.getElem?_toArray,List.getElem?_cons_zero] at c0
  have hl1:=h1.mfiles.lookup Vc Wt ST name
  cases hg:Z8 A.files name with
  | some f =>
   have hc:Y4 A name=1:=by simp[Y4,hr,hg]
   rw[hg] at hl1
   simp only[Option.map_some,Option.getD_some,YX] at hl1
   have HT:=Lib.hid hT1
   clear h h1 hT1 b1
   go_wp2
   go_ret
   exact ⟨by rw[hc];rfl,.inl ⟨by rw[hc];decide,HT.out⟩⟩
  | none =>
   rw[hg] at hl1
   simp only[Option.map_none,Option.getD_none] at hl1
   have hln:=h1.mfiles.len Wt 3
   by_cases h8:A.files.length=8
   ·have hc:Y4 A name=62:=by simp[Y4,hr,hg,h8]
    rw[h8] at hln
    have HT:=Lib.hid hT1
    clear h h1 hT1 b1
    go_wp2
    go_ret
    exact ⟨by rw[hc];rfl,.inl ⟨by rw[hc];decide,HT.out⟩⟩
   ·have hc:Y4 A name=0:=by simp[Y4,hr,hg,h8]
    have h9:¬ (A.files.length:Int)=8:=by omega
    have hT2:=hT1.trans (Ze.born h1 hb1)
    have hs:=Qq (Ze.born h1 hb1).is_ (by simp;omega) ⟨0,name,⟨#[]⟩,some w1.heap.size⟩ (fun f hf=>by cases hf;exact ⟨List.mem_cons_self,Q4 hr⟩) hn0 hn1 hl
    have hni:w1.heap.size∉A.ids:=fun hm=>by have:=(h1.file _ hm).lt;omega
    have HT2:=Lib.hid hT2
    have HS:=Lib.hid hs
    clear h h1 hT1 b1 hT2 hs
    go_wp2_with fail
    refine HS.out.mono ?_
    rintro e w3 ⟨rfl,D',hT3⟩
    have HT3:=Jh (HT2.out.trans hT3)
    clear hT3
    go_wp2
    go_ret
    exact ⟨by rw[hc];rfl,.inr ⟨hc,_,D',hni,HT3.out⟩⟩
theorem QJ {base:Nat} {w:World} {D:DSh} {A:Z4} (h:Zb base w D A) (hbw:base≤w.heap.size) (name:ByteArray) (hn0:0≤A.now) (hn1:A.now≤1000000000) (hl:A.chg.length≤1000000000) :
  Calls Tryz.prog 43 #[.pointer (some ⟨D.pb,0,none⟩),.string name] w fun e w' =>
   (Z8 A.files name=none∧e=.returned (.int .i64 61)∧Ze base w D A w' D A)∨(∃ f D',Z8 A.files name=some f∧e=.returned (.int .i64 0)∧Ze base w D A w' D' (Zz ⟨0,⟨#[]⟩,name,none⟩ A)):=by
 go_enter Tryz.func43,Tryz.ntmps43
 go_wp2_with fail
 refine (UV h name).mono ?_
 rintro e w1 ⟨rfl,rfl⟩
 have hs:=Qq h hbw ⟨0,⟨#[]⟩,name,none⟩ (fun f hf=>by cases hf) hn0 hn1 hl
 have HS:=Lib.hid hs
 have HH:=Lib.hid h
 clear h hs
 unfold Sv
 cases hg:Z8 A.files name with
 | none =>
  simp only[Option.isSome_none,Wk,Option.map_none]
  go_wp2
  go_ret
  first|exact .inl ⟨hg,rfl,Ze.refl HH.out⟩|exact ⟨rfl,Ze.refl HH.out⟩
 | some f =>
  simp only[Option.isSome_some,Wk,Option.map_some,if_true]
  go_wp2_with fail
  refine HS.out.mono ?_
  rintro e w3 ⟨rfl,D',hT3⟩
  have HT3:=Lib.hid hT3
  clear hT3
  go_wp2
  go_ret
  exact .inr ⟨f,D',hg,rfl,HT3.out⟩
theorem Z51 {base:Nat} {w:World} {D:DSh} {A:Z4} (h:Zb base w D A) (hbw:base≤w.heap.size) (old name:ByteArray) (hn0:0≤A.now) (hn1:A.now≤1000000000) (hl:A.chg.length≤1000000000) :
  Calls Tryz.prog 131 #[.pointer (some ⟨D.pb,0,none⟩),.string old,.string name] w fun e w' =>
   (Yn name=false∧e=.returned (.int .i64 63)∧Ze base w D A w' D A)∨(Yn name=true∧Z8 A.files old=none∧e=.returned (.int .i64 61)∧Ze base w D A w' D A) ∨
   (∃ f D',Yn name=true∧Z8 A.files old=some f∧e=.returned (.int .i64 0)∧Ze base w D A w' D' (Zz ⟨0,name,old,some f⟩ A)):=by
 go_enter Tryz.func131,Tryz.ntmps131
 go_wp2_with fail
 refine (QG name _).mono ?_
 rintro e w1 ⟨rfl,b1⟩
 have hT1:=Ze.below h b1
 have h1:=hT1.is_
 have hb1:base≤w1.heap.size:=Nat.le_trans hbw b1.size
 cases hr:Yn name with
 | false =>
  have HT:=Lib.hid hT1
  clear h h1 hT1 b1
  go_wp2
  go_ret
  exact .inl ⟨hr,rfl,HT.out⟩
 | true =>
  go_wp2_with fail
  refine (UV h1 old).mono ?_
  rintro e w2 ⟨rfl,rfl⟩
  unfold Sv
  cases hg:Z8 A.files old with
  | none =>
   simp only[Option.isSome_none,Wk,Option.map_none]
   have HT:=Lib.hid hT1
   clear h h1 hT1 b1
   go_wp2
   go_ret
   first|exact .inr (.inl ⟨hr,hg,rfl,HT.out⟩)|exact .inr ⟨hr,rfl,HT.out⟩|exact ⟨rfl,HT.out⟩
  | some f =>
   simp only[Option.isSome_some,Wk,Option.map_some,if_true]
   have hs:=Qq h1 hb1 ⟨0,name,old,some f⟩ (fun g hf=>by cases hf;exact ⟨(h1.ok.inf _ _ (Wy hg)).1,Q4 hr⟩) hn0 hn1 hl
   have HS:=Lib.hid hs
   have HT:=Lib.hid hT1
   clear h h1 hT1 b1 hs
   go_wp2_with fail
   refine HS.out.mono ?_
   rintro e w3 ⟨rfl,D',hT3⟩
   have HT3:=Jh (HT.out.trans hT3)
   clear hT3
   go_wp2
   go_ret
   first|exact .inr (.inr ⟨f,D',hr,hg,rfl,HT3.out⟩)|exact ⟨f,D',hr,hg,rfl,HT3.out⟩
theorem Zb.tick {base:Nat} {w:World} {D:DSh} {A:Z4} (h:Zb base w D A):Zb base (w.setCell ⟨D.pb,4,none⟩ (.int .i64 (A.now+1))) D { A with now:=A.now+1 } :=
 h.head (S:=(·=D.pb)) (YO _ _ _ _) (fun b _ hb=>.inl hb) (Joins.block_setCell (i:=4) h.blk (.int .i64 (A.now+1))) (h.ochg.ext (YO _ _ _ _) (fun b hb e=>ZO (Zk h.ochg hb) h.tpb (by decide) e))
  (h.osyn.ext (YO _ _ _ _) (fun b hb e=>ZO (Zk h.osyn hb) h.tpb (by decide) e)) h.ok.inc
def XO (A:Z4):Z4:={ A with now:=A.now+1,syn:=A.syn++[A.now+1] }
theorem VK {base:Nat} {w:World} {D:DSh} {A:Z4} (h:Zb base w D A) (hbw:base≤w.heap.size) (hn0:0≤A.now) (hn1:A.now≤1000000000) (hl:A.syn.length≤1000000000) :
  Calls Tryz.prog 121 #[.pointer (some ⟨D.pb,0,none⟩)] w fun e w' =>
   e=.returned (.int .i64 0)∧∃ D',Ze base w D A w' D' (XO A):=by
 obtain ⟨i0,hi,hz0,hz1,hz2⟩:=info_parts Wi
 have HH0:=Lib.hid h
 have p0:=h.blk
 have h3:=h.tick
 obtain ⟨w3,hw3⟩:=Je (w.setCell ⟨D.pb,4,none⟩ (.int .i64 (A.now+1)))
 have hs3:w3.heap.size=w.heap.size:=by rw[←hw3,World.size_setCell]
 have HX3:Hid (Ext (Wn D A) w w3):=Jh (by rw[←hw3];exact (Ext.refl _ w).setCell (p:=⟨D.pb,4,none⟩) (.inr (.inl rfl)) _)
 rw[hw3] at h3
 have b3:=h3.blk
 have k0:=Joins.cell_of_block p0 4
 have k1:=Joins.unfrozen_of_block p0 4
 have k2:=Joins.cell_of_block b3 4
 simp only[List.getElem?_toArray,List.getElem?_cons_succ,List.getElem?_cons_zero] at k0 k2
 have hbw3:base≤w3.heap.size:=by omega
 have HS3:=Lib.hid hs3
 have HH3:=Lib.hid h3
 clear h h3 p0 b3 hs3
 go_enter Tryz.func121,Tryz.ntmps121
 go_upto_region 4 with fail
 clear k0 k1 hw3
 obtain ⟨va,vcap,hvc⟩:∃ va vcap,D.vs=.slice va A.syn.length vcap:=by
  rcases HH0.out.osyn.eq_slice with ⟨e,e2⟩|⟨g,c,e,_⟩
  ·exact ⟨none,0,by rw[e,e2];rfl⟩
  ·exact ⟨_,_,e⟩
 have b3:=HH3.out.blk
 have c2:=Joins.cell_of_block b3 3
 have f2:=Joins.unfrozen_of_block b3 3
 simp only[List.getElem?_toArray,List.getElem?_cons_succ,List.getElem?_cons_zero,hvc] at c2
 have hown3:=HH3.out.osyn
 rw[hvc] at hown3
 have hnb:∀ j u,(Zi (A.now+1))[j]?=some u→(w3.alloc (.cells #[.int .i64 (A.now+1)] 3)).cell? ⟨w3.heap.size,j,none⟩=some u:=by
  intro j u hj
  rw[World.cell?_alloc_at _ _ _ _ rfl,←hj,Zi]
  simp
 have HNB:=Lib.hid hnb
 have hown4:=hown3.alloc (.cells #[.int .i64 (A.now+1)] 3)
 have HOW:=Lib.hid hown4
 have hlpb:=HH3.out.lpb
 have hnr:¬ (Value.slice va A.syn.length vcap).ownBlock=some D.pb:=fun e=>ZO (Zk hown3 e) HH3.out.tpb (by decide) rfl
 have hall:∀ w5 w6:World,w5.heap=(w3.alloc (.cells #[.int .i64 (A.now+1)] 3)).heap→Ext (fun b=>(Value.slice va A.syn.length vcap).ownBlock=some b) w5 w6→w6.heap[D.pb]?=some (.cells #[.map (some D.mf),.map (some D.mb),D.vc,.slice va A.syn.length vcap,.int .i64 (A.now+1)] 118 (0,0)):=fun w5 w6 h5 hx6=>by
  rw[hx6.block D.pb (by rw[h5];simp;omega) hnr,h5,Below.heap_alloc _ _ _ hlpb,b3,hvc]
 have HALL:=Lib.hid hall
 have HVC:=Lib.hid hvc
 clear hnb hown3 hown4 hnr hall hvc b3
 go_region_law (refine WK (v:=.slice va A.syn.length vcap) (l:=A.syn) rfl (.tmp 16) (.tmp 21) 100 rfl i0 _ 8 Tryz.underlying100 hi hz0 hz1 hz2 rfl (by omega) Zf XA rfl HOW.out (A.now+1) w3.heap.size 1 rfl HNB.out (by unfold maxLen;omega) (by omega) (by simp;omega) ?_;intro v' w6 hown6 hx6 hnw6;obtain ⟨g6,cp6,rfl⟩:∃ g c,v'=.slice (some ⟨g,0,none⟩) (A.syn.length+1) c:=(by rcases hown6.eq_slice with ⟨_,h⟩|⟨g,c,h,_⟩;(simp at h);exact ⟨g,c,by simpa using h⟩);have hb6:=HALL.out _ w6 (by rfl) hx6;have g1:=Joins.unfrozen_of_block hb6 3;have g2:=Joins.cell_of_block hb6 3)
 all_goals
  have hx7:Ext (fun b=>b=D.pb∨D.vs.ownBlock=some b) w3 (w6.setCell ⟨D.pb,3,none⟩ (.slice (some ⟨g6,0,none⟩) (A.syn.length+1) cp6)) :=
   Ext.setCell ((((Ext.refl _ w3).alloc (.cells #[.int .i64 (A.now+1)] 3))).andThen (T:=fun b=>(Value.slice va A.syn.length vcap).ownBlock=some b) ⟨hx6.os,hx6.tape,hx6.output,hx6.size,hx6.block⟩ (fun b _ hb=>.inr (by rw[HVC.out];exact hb))) (.inr (.inl rfl)) _
  have hblk:(w6.setCell ⟨D.pb,3,none⟩ (.slice (some ⟨g6,0,none⟩) (A.syn.length+1) cp6)).heap[D.pb]?=some (.cells #[.map (some D.mf),.map (some D.mb),D.vc,.slice (some ⟨g6,0,none⟩) (A.syn.length+1) cp6,.int .i64 (A.now+1)] 118 (0,0)):=by
   rw[Joins.block_setCell hb6];rfl
  have h7:=HH3.out.head hx7 (fun b _ hb=>hb.elim .inl (fun e=>.inr (.inr e))) hblk
   (HH3.out.ochg.ext hx7 (fun b hb hs=>by
    rcases hs with rfl|e
    ·exact ZO (Zk HH3.out.ochg hb) HH3.out.tpb (by decide) rfl
    ·exact ZO (Zk HH3.out.ochg hb) (Zk HH3.out.osyn e) (by decide) rfl))
   (hown6.ext (YO _ _ _ _) (fun b hb e=>ZO (Zk hown6 hb) (YW hb6) (by decide) e))
   HH3.out.ok.inc
  have hg6:∀ b,(Value.slice (some ⟨g6,0,none⟩) (A.syn.length+1) cp6).ownBlock=some b→D.vs.ownBlock=some b∨w.heap.size≤b:=fun b hb=>by
   rcases hnw6 b hb with e|e
   ·exact .inl (by rw[HVC.out];exact e)
   ·refine .inr (Nat.le_trans ?_ e)
    have:=HS3.out
    simp
    omega
  have hT:Ze base w D A (w6.setCell ⟨D.pb,3,none⟩ (.slice (some ⟨g6,0,none⟩) (A.syn.length+1) cp6)) { D with vc:=D.vc,vs:=.slice (some ⟨g6,0,none⟩) (A.syn.length+1) cp6 } (XO A):={
   is_:=h7
   pb:=rfl
   ext:=HX3.out.andThen hx7 (fun b _ hb=>hb.elim .inl (fun e=>.inr (.inr (.inr (.inr (.inl e))))))
   foot:=fun b hb=>by
    rcases hb with e|e|e|e|e|⟨g,hg,e⟩
    ·exact .inl (.inl e)
    ·exact .inl (.inr (.inl e))
    ·exact .inl (.inr (.inr (.inl e)))
    ·exact .inl (.inr (.inr (.inr (.inl e))))
    ·exact (hg6 b e).elim (fun e=>.inl (.inr (.inr (.inr (.inr (.inl e)))))) .inr
    ·exact .inl (.inr (.inr (.inr (.inr (.inr ⟨g,hg,e⟩))))) }
  have HT:=Lib.hid hT
  clear hx7 hblk h7 hg6 hT hown6 hx6 hnw6 hb6 g1 g2
  go_wp2
  go_ret
  exact ⟨rfl,_,HT.out⟩
end Go.Proofs.YtgmdimbiipemhaaGreatDoor
namespace Go.Proofs.YtgmdimbiipemhaaGreatDoor
open Go
section
variable {P:Program} {ops:Array Oper} {Q:Exit→Act→World→Prop} {md:Region.Mode} {S:World→Prop}
end
end Go.Proofs.YtgmdimbiipemhaaGreatDoor
namespace Go.Proofs.YtgmdimbiipemhaaGreatDoor
open Go.RowKit
section
variable {P:Program} {w:World} {α:Type} {ea:α→List Value} {k:Nat} {e:TypeId} {base:Nat} {v vx:Value} {l ys:List α}
theorem Z0.ext {S:Nat→Prop} {w':World} (h:Z0 ea k w v l) (hx:Ext S w w') (hn:∀ b o n cap,v=.slice (some ⟨b,o,none⟩) n cap→¬ S b):Z0 ea k w' v l:=by
 obtain ⟨a,cap,rfl,h2,h3,h4⟩:=h
 refine ⟨a,cap,rfl,h2,h3,fun hl=>?_⟩
 obtain ⟨b,off,h5,h6⟩:=h4 hl
 exact ⟨b,off,h5,fun i x hi j u hj=>hx.keep (h6 i x hi j u hj) (hn b off l.length cap (by rw[h5]))⟩
theorem Own.empty (ea:α→List Value) (k:Nat) (e:TypeId) {w:World} (hb:base≤w.heap.size):Own ea k e base (w.alloc (.cells #[] e)) (.slice (some ⟨w.heap.size,0,none⟩) 0 0) ([]:List α) :=
 ⟨by simp,.inr ⟨w.heap.size,0,#[],rfl,hb,heap_alloc_new w _,Nat.le_refl _,Nat.zero_le _,by simp,by simp⟩⟩
theorem Z0.one (x:α) (e:TypeId) {w:World}:Z0 ea k (w.alloc (.cells (ea x).toArray e)) (.slice (some ⟨w.heap.size,0,none⟩) 1 1) [x]:=by
 refine ⟨_,1,rfl,Nat.le_refl _,by unfold maxLen;omega,fun _=>⟨w.heap.size,0,rfl,fun i y hi j u hj=>?_⟩⟩
 have hi0:i=0:=by
  have:=(List.getElem?_eq_some_iff.1 hi).1
  simpa using this
 subst hi0
 simp only[List.getElem?_cons_zero,Option.some.injEq] at hi
 subst hi
 have:=heap_alloc_new w (.cells (ea x).toArray e)
 simp only[World.cell?,this,Nat.zero_mul,Nat.zero_add]
 simpa using hj
end
section
variable {P:Program} {ops:Array Oper} {Q:Exit→Act→World→Prop} {md:Region.Mode} {S:World→Prop}
end
end Go.Proofs.YtgmdimbiipemhaaGreatDoor
namespace Go.Proofs.YtgmdimbiipemhaaGreatDoor
open Go.RowKit Go.Deep
theorem YV {P:Program} {ops:Array Oper} {rest:List Oper} {o:Oper} {a:Act} {w:World} {Q:Exit→Act→World→Prop} (hgd:o.guard=none) (s x:Operand) (t:TypeId)
  (ho:o.op=.call { callee:=.builtin .append,args:=#[s,x],argTypes:=#[t,t] }) {v vx v':Value} {w':World} (hs:a.eval s=v) (hx:a.eval x=vx)
  (hr:(Builtin.append_ #[t,t] o.type #[v,vx]).run P w=.ok v' w') (h:wpList P ops Q rest (a.put o.dst v') w'):wpList P ops Q (o :: rest) a w :=
 wpList_plain hgd fun _ hK=>by
  have hv:(execOp a.eval o).run P w=.ok (.value v') w':=by
   unfold execOp
   simp only[ho,resolve,invoke,builtin,Sem.run_bind,Sem.run_pure,Result.andThen_ok,List.map_toArray,List.map_cons,List.map_nil,hs,hx,hr]
  rw[Oper.wp,hv]
  exact hK _ _ h
theorem Z2i {bs:List UInt8} {vx:Value} {w:World} (h:Z0 u8c 1 w vx bs) (hl:bs.length≤70368744177664) :
  Calls Tryz.prog 71 #[vx] w fun e w'=>∃ v',e=.returned v'∧Own u8c 1 5 w.heap.size w' v' bs∧Below w.heap.size w w':=by
 obtain ⟨i0,hi,hz0,hz1,hz2⟩:=info_parts YA
 have h0:=h
 obtain ⟨a,cap,rfl,hcap,hmax,hcs⟩:=h
 cases a with
 | none =>
  have hys:bs=[]:=Classical.byContradiction fun hn=>by obtain ⟨b,o,e,_⟩:=hcs hn;cases e
  subst hys
  clear h0 hcs
  have hnil:=fun (w:World) a n c=>Lib.run_eql_slice_nil (P:=Tryz.prog) w 22 _ a n c 0 0 Tryz.underlying22
  go_enter Tryz.func71,Tryz.ntmps71
  go_wp2
  go_ret
  exact ⟨_,rfl,Own.nil,Below.refl _ _⟩
 | some ad =>
  have ho:=Own.empty (base:=w.heap.size) u8c 1 5 (w:=w) (Nat.le_refl _)
  have hx:=h0.below ((Below.refl w.heap.size w).alloc (Nat.le_refl _) (.cells #[] 5))
  obtain ⟨v',w',hr,hown,hx'⟩:=Yd (P:=Tryz.prog) 22 22 i0 _ 1 Tryz.underlying22 hi hz0 hz1 hz2 rfl (by omega) Z6 XU ho hx (by simp[maxLen];omega) (by simp;omega) (by simp)
  have hB:=Ext.new ((Below.refl w.heap.size w).alloc (Nat.le_refl _) (.cells #[] 5)) hx' (fun i hi _ e=>by have:=(ho.blk i e).1;omega) (by simp)
  have HR:=Lib.hid hr
  have HO:=Lib.hid hown
  have HB:=Lib.hid hB
  clear h0 hcs ho hx hr hown hx' hB
  have hnil:=fun (w:World) a n c=>Lib.run_eql_slice_nil (P:=Tryz.prog) w 22 _ a n c 0 0 Tryz.underlying22
  go_enter Tryz.func71,Tryz.ntmps71
  go_wp2_with (at_builtin;refine YV rfl _ _ _ rfl rfl rfl HR.out ?_)
  go_ret
  exact ⟨_,rfl,HO.out,HB.out⟩
theorem Z50:(Tryz.prog.info? 131).map (fun i=>(i.zero,i.size,i.bytes))=some (some (.agg #[.slice none 0 0,.int .i64 0,.int .i64 0]),3,40):=by kernel_rfl
def Yw (f:Nat) (bs:List UInt8) (A:Z4):Z4:={ A with now:=A.now+1,fs:=fun g=>if g=f then A.fs f++[⟨bs,A.now+1,0⟩] else A.fs g }
theorem VW (ps:List PcA) (p:PcA):ZB (ps++[p])=ZB ps+p.bs.length:=by simp[ZB]
theorem Z3o (W:World) (sa:Option Addr) (sn sc:Nat) (n:Int):∀ j u,(Pc.cells ⟨⟨sa,sn,sc⟩,n,0⟩)[j]?=some u→(W.alloc (.cells #[.slice sa sn sc,.int .i64 n,.int .i64 0] 131)).cell? ⟨W.heap.size,j,none⟩=some u:=by
 intro j u hj
 rw[World.cell?_alloc_at _ _ _ _ rfl,←hj,Pc.cells]
 simp
theorem Z5v {w:World} {v u:Value} {bs:List UInt8} {p:Addr} {n:Int} (h:Z0 u8c 1 w v bs) (hp:w.cell? p=some (.int .i64 n)):Z0 u8c 1 (w.setCell p u) v bs:=by
 obtain ⟨a,cap,h1,h2,h3,h4⟩:=h
 refine ⟨a,cap,h1,h2,h3,fun hl=>?_⟩
 obtain ⟨b,off,h5,h6⟩:=h4 hl
 refine ⟨b,off,h5,fun i x hi j z hj=>?_⟩
 have h7:=h6 i x hi j z hj
 rw[World.cell?_setCell_other]
 ·exact h7
 ·rintro rfl
  rw[hp] at h7
  cases h7
  have hj0:j=0:=by
   have:=(List.getElem?_eq_some_iff.1 hj).1
   simp[u8c] at this
   exact this
  subst hj0
  simp[u8c] at hj
theorem Z4M {base:Nat} {w w3 w5 w6:World} {D:DSh} {A:Z4} {f:Nat} {bs:List UInt8} {va:Option Addr} {vcap:Nat} {qs:List Pc} {s5:Sl} {v6:Value} {o:Obj} (h:Zb base w D A) (hx3:Ext (Wn D A) w w3) (hs3:w3.heap.size=w.heap.size) (hbw:base≤w3.heap.size)
  (h3:Zb base w3 D { A with now:=A.now+1 }) (hf:f∈A.ids) (hvc:D.rv f=.slice va qs.length vcap) (hql:qs.length=(A.fs f).length) (hqp:∀ (i:Nat) q p,qs[i]?=some q→(A.fs f)[i]?=some p→Z0F base w3 q p)
  (b5:Below w3.heap.size w3 w5) (own5:Own u8c 1 5 w3.heap.size w5 s5.val bs) (hown6:Own Pc.cells 3 131 base w6 v6 (qs++[⟨s5,A.now+1,0⟩])) (hx6:Ext (fun b=>(Value.slice va qs.length vcap).ownBlock=some b) (w5.alloc o) w6)
  (hnw6:∀ b,v6.ownBlock=some b→(Value.slice va qs.length vcap).ownBlock=some b∨(w5.alloc o).heap.size≤b) (hb6:w6.heap[f]?=some (.cells #[.slice va qs.length vcap,.int .i64 (ZB (A.fs f))] 124 (0,0))) (hroom:ZB (A.fs f)+bs.length≤1048576) :
  Ze base w D A ((w6.setCell ⟨f,0,none⟩ v6).setCell ⟨f,1,none⟩ (.int .i64 ((ZB (A.fs f):Int)+bs.length))) { D with rv:=fun g=>if g=f then v6 else D.rv g } (Yw f bs A):=by
 have hx9:Ext (fun b=>b=f∨(D.rv f).ownBlock=some b) w3 ((w6.setCell ⟨f,0,none⟩ v6).setCell ⟨f,1,none⟩ (.int .i64 ((ZB (A.fs f):Int)+bs.length))):=by
  refine Ext.setCell (Ext.setCell ?_ (.inr (.inl rfl)) _) (.inr (.inl rfl)) _
  exact ((Ext.of_below b5).alloc o).andThen hx6 (fun b _ hb=>.inr (by rw[hvc];exact hb))
 have hb9:((w6.setCell ⟨f,0,none⟩ v6).setCell ⟨f,1,none⟩ (.int .i64 ((ZB (A.fs f):Int)+bs.length))).heap[f]?=some (.cells #[v6,.int .i64 ((ZB (A.fs f):Int)+bs.length)] 124 (0,0)):=by
  rw[Joins.block_setCell (Joins.block_setCell hb6 _)]
  rfl
 have hx69:Ext (·=f) w6 ((w6.setCell ⟨f,0,none⟩ v6).setCell ⟨f,1,none⟩ (.int .i64 ((ZB (A.fs f):Int)+bs.length))):=(YO _ _ _ _).andThen (YO _ _ _ _) (fun _ _=>id)
 have hx59:Ext (fun b=>b=f∨(D.rv f).ownBlock=some b) w5 ((w6.setCell ⟨f,0,none⟩ v6).setCell ⟨f,1,none⟩ (.int .i64 ((ZB (A.fs f):Int)+bs.length))) :=
  (((Ext.refl _ w5).alloc o).andThen hx6 (fun b _ hb=>.inr (by rw[hvc];exact hb))).andThen hx69 (fun b _ hb=>.inl hb)
 have tf:=(h3.file f hf).tag
 have trow:∀ b,(D.rv f).ownBlock=some b→Ys w3 b=some 131:=fun b hb=>((h3.file f hf).row hb).1
 have hv:∀ b,v6.ownBlock=some b→(D.rv f).ownBlock=some b∨w3.heap.size≤b:=fun b hb=>by
  rcases hnw6 b hb with e|e
  ·exact .inl (by rw[hvc];exact e)
  ·refine .inr (Nat.le_trans b5.size (Nat.le_trans ?_ e))
   simp
 have hsz:ZB (A.fs f++[⟨bs,A.now+1,0⟩])≤1048576:=by rw[VW];exact hroom
 have hfile:XF base ((w6.setCell ⟨f,0,none⟩ v6).setCell ⟨f,1,none⟩ (.int .i64 ((ZB (A.fs f):Int)+bs.length))) f v6 (A.fs f++[⟨bs,A.now+1,0⟩]):=by
  refine ⟨(h3.file f hf).1,?_,_,hown6.ext hx69 (fun b hb e=>ZO (Zk hown6 hb) (YW hb6) (by decide) e),by simp[hql],fun i q p hq hp=>?_⟩
  ·rw[hb9,VW]
   simp
  ·by_cases hi:i<qs.length
   ·rw[List.getElem?_append_left hi] at hq
    rw[List.getElem?_append_left (by omega)] at hp
    refine (hqp i q p hq hp).ext hx9 (fun b hb ht e=>?_)
    rcases e with rfl|e
    ·exact ZO ht tf (by decide) rfl
    ·exact ZO ht (trow b e) (by decide) rfl
   ·have hi2:i=qs.length:=by
     have:=(List.getElem?_eq_some_iff.1 hq).1
     simp at this
     omega
    subst hi2
    simp at hq
    rw[hql] at hp
    simp at hp
    subst hq hp
    refine ⟨(own5.ext hx59 (fun b hb e=>?_)).mono hbw,rfl,rfl⟩
    have hlb:=(own5.blk b hb).1
    rcases e with rfl|e
    ·have:=(h3.file b hf).lt;omega
    ·have:=WT (trow b e);omega
 have hT:=h3.turn hx9 hf (fun b _ hb=>hb) hfile hv hsz
 exact {
  is_:=hT
  pb:=rfl
  ext:=hx3.andThen hx9 (fun b _ hb=>.inr (.inr (.inr (.inr (.inr ⟨f,hf,hb⟩)))))
  foot:=fun b hb=>by
   rcases hb with e|e|e|e|e|⟨g,hg,e⟩
   ·exact .inl (.inl e)
   ·exact .inl (.inr (.inl e))
   ·exact .inl (.inr (.inr (.inl e)))
   ·exact .inl (.inr (.inr (.inr (.inl e))))
   ·exact .inl (.inr (.inr (.inr (.inr (.inl e)))))
   ·by_cases hgf:g=f
    ·subst hgf
     dsimp only at e
     rw[if_pos rfl] at e
     rcases e with e|e
     ·exact .inl (.inr (.inr (.inr (.inr (.inr ⟨g,hg,.inl e⟩)))))
     ·rcases hv b e with e|e
      ·exact .inl (.inr (.inr (.inr (.inr (.inr ⟨g,hg,.inr e⟩)))))
      ·exact .inr (by omega)
    ·dsimp only at e
     rw[if_neg hgf] at e
     exact .inl (.inr (.inr (.inr (.inr (.inr ⟨g,hg,e⟩))))) }
def TX (base:Nat) (w:World) (D:DSh) (A:Z4) (name:ByteArray) (bs:List UInt8) (e:Ending) (w':World):Prop :=
 (Z8 A.files name=none∧e=.returned (.int .i64 61)∧Ze base w D A w' D A)∨(∃ f,Z8 A.files name=some f∧1048576<ZB (A.fs f)+bs.length∧e=.returned (.int .i64 62)∧Ze base w D A w' D A) ∨
   (∃ f D',Z8 A.files name=some f∧ZB (A.fs f)+bs.length≤1048576∧e=.returned (.int .i64 0)∧Ze base w D A w' D' (Yw f bs A))
theorem UG {base:Nat} {w:World} {D:DSh} {A:Z4} (h:Zb base w D A) (hbw:base≤w.heap.size) (name:ByteArray) (vx:Value) (bs:List UInt8) (hvx:Z0 u8c 1 w vx bs) (hlb:bs.length≤70368744177664) {N:Nat} (hsm:A.Small N) (hN:N≤1000000000) :
  Calls Tryz.prog 30 #[.pointer (some ⟨D.pb,0,none⟩),.string name,vx] w fun e w' =>
   TX base w D A name bs e w':=by
 obtain ⟨i0,hi,hz0,hz1,hz2⟩:=info_parts Z50
 obtain ⟨xa,xc,rfl,hxc,hxm,_⟩:=id hvx
 unfold maxLen at hxm
 have HVX:=Lib.hid hvx
 clear hvx
 go_enter Tryz.func30,Tryz.ntmps30
 go_wp2_with fail
 refine (UV h name).mono ?_
 rintro e w1 ⟨rfl,rfl⟩
 unfold Sv
 cases hg:Z8 A.files name with
 | none =>
  simp only[Option.isSome_none,Wk,Option.map_none]
  have HH:=Lib.hid h
  clear h
  go_wp2
  go_ret
  exact .inl ⟨hg,rfl,Ze.refl HH.out⟩
 | some f =>
  simp only[Option.isSome_some,Wk,Option.map_some,if_true]
  have hf:=(h.ok.inf _ _ (Wy hg)).1
  have hsz:=h.ok.sz f hf
  have hF:=h.file f hf
  have fb:=hF.2.1
  have s1:=Joins.cell_of_block fb 1
  simp only[List.getElem?_toArray,List.getElem?_cons_succ,List.getElem?_cons_zero] at s1
  have HG:=Lib.hid hg
  have HH:=Lib.hid h
  have HF:=Lib.hid hf
  have HFB:=Lib.hid fb
  by_cases hroom:1048576<ZB (A.fs f)+bs.length
  ·have h9:(1048576:Int) - (ZB (A.fs f):Int)<(bs.length:Int):=by omega
   have HR:=Lib.hid hroom
   clear h hf fb hF hg hroom
   go_wp2
   go_ret
   exact .inr (.inl ⟨f,HG.out,HR.out,rfl,Ze.refl HH.out⟩)
  ·have h9:¬ (1048576:Int) - (ZB (A.fs f):Int)<(bs.length:Int):=by omega
   have hroom':ZB (A.fs f)+bs.length≤1048576:=by omega
   have HR:=Lib.hid hroom'
   have hn1:=hsm.now
   have hn0:=hsm.now0
   have k0:=Joins.cell_of_block h.blk 4
   have k1:=Joins.unfrozen_of_block h.blk 4
   simp only[List.getElem?_toArray,List.getElem?_cons_succ,List.getElem?_cons_zero] at k0
   have hfp:f≠D.pb:=ZO hF.tag h.tpb (by decide)
   clear h hf fb hF hg hroom hroom'
   go_upto_region 7 with fail
   have h3:=HH.out.tick
   have hx3:Ext (Wn D A) w1 (w1.setCell ⟨D.pb,4,none⟩ (.int .i64 (A.now+1))):=(Ext.refl _ w1).setCell (p:=⟨D.pb,4,none⟩) (.inr (.inl rfl)) _
   have hvx3:Z0 u8c 1 (w1.setCell ⟨D.pb,4,none⟩ (.int .i64 (A.now+1))) (.slice xa bs.length xc) bs:=Z5v HVX.out k0
   obtain ⟨w3,hw3⟩:=Je (w1.setCell ⟨D.pb,4,none⟩ (.int .i64 (A.now+1)))
   have hs3:w3.heap.size=w1.heap.size:=by rw[←hw3,World.size_setCell]
   rw[hw3] at h3 hx3 hvx3 ⊢
   have HX3:=Lib.hid hx3
   have HS3:=Lib.hid hs3
   have HVX3:=Jh (hvx3.below (Below.refl _ _).drew)
   have hbw3:base≤w3.heap.size:=by omega
   clear hw3 hx3 hs3 hvx3 k0 k1 s1
   have hF3:=h3.file f HF.out
   obtain ⟨hbf,hfb3,qs,hqo,hql,hqp⟩:=id hF3
   obtain ⟨va,vcap,hvc⟩:∃ va vcap,D.rv f=.slice va qs.length vcap:=by
    rcases hqo.eq_slice with ⟨e,e2⟩|⟨g,c,e,_⟩
    ·exact ⟨none,0,by rw[e,e2];rfl⟩
    ·exact ⟨_,_,e⟩
   have hlq:qs.length≤1000000001:=by have:=hsm.pcs f HF.out;dsimp only at hql;omega
   have b3:=h3.blk
   have c4:=Joins.cell_of_block b3 4
   have f0:=Joins.cell_of_block hfb3 0
   simp only[List.getElem?_toArray,List.getElem?_cons_succ,List.getElem?_cons_zero,hvc] at c4 f0
   have hown3:=hqo
   rw[hvc] at hown3
   have hfl:f<w3.heap.size:=hF3.lt
   have HFB3:=Lib.hid hfb3
   have HVC:=Lib.hid hvc
   have HOW:=Lib.hid hown3
   have HQP:=Lib.hid hqp
   have HQL:=Lib.hid hql
   have H3:=Lib.hid h3
   clear h3 hF3 hfb3 hqo hql hqp hvc b3 hown3 hsm
   have HCL:=Jh (fun W (h:Z0 u8c 1 W (.slice xa bs.length xc) bs)=>Z2i h hlb)
   have hnr:¬ (Value.slice va qs.length vcap).ownBlock=some f:=fun e=>ZO (Zk HOW.out e) (H3.out.file f HF.out).tag (by decide) rfl
   have HNR:=Lib.hid hnr
   clear hnr
   go_region_law (first
    | (refine Z5P (f:=71) (args:=#[.slice xa bs.length xc]) rfl (by first|(go_simp;done)|(go_simp;first|rfl|exact ⟨rfl,rfl⟩|exact ⟨⟨rfl,rfl⟩,rfl⟩)) ?_;(with_reducible refine (HCL.out _ HVX3.out).mono ?_);rintro e w5 ⟨v5,rfl,own5,b5⟩;refine ⟨_,rfl,?_⟩;simp only[Z57,Z4U] at b5 own5;obtain ⟨⟨sa,sn,sc⟩,e5⟩:=own5.slv;change v5=.slice sa sn sc at e5;subst e5;have c45:=ZH b5 c4;have f05:=ZH b5 f0;have f06:=Zy f05 (.cells #[.slice sa sn sc,.int .i64 (A.now+1),.int .i64 0] 131);have HB5:=Lib.hid b5;have HO5:=Lib.hid own5;have how5:=(HOW.out.ext (Ext.of_below (S:=fun _=>False) b5) (fun _ _=>id)).alloc (.cells #[.slice sa sn sc,.int .i64 (A.now+1),.int .i64 0] 131);have HOW5:=Lib.hid how5;have hs5:=b5.size;have hall5:∀ w6,Ext (fun b=>(Value.slice va qs.length vcap).ownBlock=some b) (w5.alloc (.cells #[.slice sa sn sc,.int .i64 (A.now+1),.int .i64 0] 131)) w6→w6.heap[f]?=some (.cells #[.slice va qs.length vcap,.int .i64 (ZB (A.fs f))] 124 (0,0)):=(fun w6 hx6=>by
       rw[hx6.block f (by simp;omega) HNR.out,Below.heap_alloc _ _ _ (by omega),b5.block f hfl,HFB3.out,HVC.out]);have HALL5:=Lib.hid hall5;clear b5 own5 how5 hall5)
    | (refine WK (v:=.slice va qs.length vcap) (l:=qs) rfl (.tmp 37) (.tmp 45) 122 rfl i0 _ 40 Tryz.underlying122 hi hz0 hz1 hz2 rfl (by omega) Pc.len Pc.one rfl HOW5.out ⟨⟨sa,sn,sc⟩,A.now+1,0⟩ w5.heap.size 1 rfl (Z3o _ _ _ _ _) (by unfold maxLen;omega) (by omega) (by simp;omega) ?_;intro v' w6 hown6 hx6 hnw6;obtain ⟨g6,cp6,rfl⟩:∃ g c,v'=.slice (some ⟨g,0,none⟩) (qs.length+1) c:=(by rcases hown6.eq_slice with ⟨_,h⟩|⟨g,c,h,_⟩;(simp at h);exact ⟨g,c,by simpa using h⟩);have hb6:=HALL5.out w6 hx6;have g1:=Joins.unfrozen_of_block hb6 0;have g2:=Joins.cell_of_block hb6 0))
   all_goals
    have HX6:=Lib.hid hx6
    have HN6:=Lib.hid hnw6
    have HO6:=Lib.hid hown6
    have HB6:=Lib.hid hb6
    have c1:=Joins.cell_of_block hb6 1
    have c2:=Joins.unfrozen_of_block hb6 1
    clear hx6 hnw6 hown6 hb6 g1 g2
    go_wp2
    go_ret
    exact .inr (.inr ⟨f,_,HG.out,HR.out,rfl,Z4M (s5:=⟨sa,sn,sc⟩) HH.out HX3.out HS3.out hbw3 H3.out HF.out HVC.out HQL.out HQP.out HB5.out HO5.out HO6.out HX6.out HN6.out HB6.out HR.out⟩)
section
variable {α:Type} {ea:α→List Value} {k:Nat} {e:TypeId} {base:Nat} {w:World}
end
def Ve (n:Int) (p:PcA):PcA:=if p.safe=0 then { p with safe:=n } else p
def SC (n:Int) (q:Pc):Pc:=if q.safe=0 then { q with safe:=n } else q
def Vq (n:Int) (k:Nat) (qs:List Pc):List Pc:=(qs.take k).map (SC n)++qs.drop k
theorem Z6U (n:Int) (k:Nat) (qs:List Pc):(Vq n k qs).length=qs.length:=by
 unfold Vq
 simp
 omega
theorem Z5Z (n:Int) (qs:List Pc):Vq n 0 qs=qs:=by simp[Vq]
theorem Z6J (n:Int) (qs:List Pc):Vq n qs.length qs=qs.map (SC n):=by simp[Vq]
theorem Z0v {n:Int} {k:Nat} {qs:List Pc} {q:Pc} (h:qs[k]?=some q):(Vq n k qs)[k]?=some q:=by
 have hk:=(List.getElem?_eq_some_iff.1 h).1
 unfold Vq
 rw[List.getElem?_append_right (by simp;omega)]
 simp only[List.length_map,List.length_take,List.getElem?_drop]
 rw[show k+(k - min k qs.length)=k by omega]
 exact h
theorem Z1u {n:Int} {k:Nat} {qs:List Pc} {q:Pc} (h:qs[k]?=some q):Vq n (k+1) qs=(Vq n k qs).set k (SC n q):=by
 have hk:=(List.getElem?_eq_some_iff.1 h).1
 have hq:=(List.getElem?_eq_some_iff.1 h).2
 unfold Vq
 rw[List.set_append_right _ _ (by simp;omega),List.take_add_one,h,Option.toList_some,List.map_append,List.append_assoc]
 congr 1
 rw[List.drop_eq_getElem_cons hk]
 simp only[List.length_map,List.length_take]
 rw[show k - min k qs.length=0 by omega]
 rfl
def X4 (f:Nat) (A:Z4):Z4:={ A with now:=A.now+1,fs:=fun g=>if g=f then (A.fs f).map (Ve (A.now+1)) else A.fs g }
theorem Z6c {base:Nat} {w w3 w9:World} {D:DSh} {A:Z4} {f:Nat} {qs:List Pc} (hx3:Ext (Wn D A) w w3)
  (h3:Zb base w3 D { A with now:=A.now+1 }) (hf:f∈A.ids) (hql:qs.length=(A.fs f).length) (hqp:∀ (i:Nat) q p,qs[i]?=some q→(A.fs f)[i]?=some p→Z0F base w3 q p)
  (hx9:Ext (fun b=>(D.rv f).ownBlock=some b) w3 w9) (hown:Own Pc.cells 3 131 base w9 (D.rv f) (qs.map (SC (A.now+1)))):Ze base w D A w9 D (X4 f A):=by
 have hsz:ZB ((A.fs f).map (Ve (A.now+1)))=ZB (A.fs f):=by
  unfold ZB
  rw[List.map_map]
  congr 2
  funext p
  simp only[Function.comp_apply,Ve]
  split <;> rfl
 have hrow:=fun b (hb:(D.rv f).ownBlock=some b)=>((h3.file f hf).row hb).1
 have hfile:XF base w9 f (D.rv f) ((A.fs f).map (Ve (A.now+1))):=by
  refine ⟨(h3.file f hf).1,?_,_,hown,by simp[hql],fun i q p hq hp=>?_⟩
  ·rw[hsz,hx9.block f (h3.file f hf).lt (fun e=>ZO (h3.file f hf).tag (hrow f e) (by decide) rfl)]
   exact (h3.file f hf).2.1
  ·rw[List.getElem?_map] at hq hp
   cases hq0:qs[i]? with
   | none=>rw[hq0] at hq;cases hq
   | some q0 =>
    cases hp0:(A.fs f)[i]? with
    | none=>rw[hp0] at hp;cases hp
    | some p0 =>
     rw[hq0] at hq
     rw[hp0] at hp
     cases hq
     cases hp
     obtain ⟨b1,b2,b3⟩:=(hqp i q0 p0 hq0 hp0).ext hx9 (fun b hb ht e=>ZO ht (hrow b e) (by decide) rfl)
     unfold SC Ve
     rw[b3]
     split
     ·exact ⟨b1,b2,rfl⟩
     ·exact ⟨b1,b2,b3⟩
 have hT:=h3.turn hx9 hf (fun b _ hb=>.inr hb) hfile (fun b hb=>.inl hb) (by rw[hsz];exact h3.ok.sz f hf)
 have hD:({ D with rv:=fun g=>if g=f then D.rv f else D.rv g }:DSh)=D:=by
  cases D
  congr 1
  funext g
  dsimp only
  split
  ·rename_i e;rw[e]
  ·rfl
 rw[hD] at hT
 exact ⟨hT,rfl,hx3.andThen hx9 (fun b _ hb=>.inr (.inr (.inr (.inr (.inr ⟨f,hf,.inr hb⟩))))),fun b hb=>.inl hb⟩
def Sq (base:Nat) (w:World) (D:DSh) (A:Z4) (name:ByteArray) (e:Ending) (w':World):Prop :=
 (Z8 A.files name=none∧e=.returned (.int .i64 61)∧Ze base w D A w' D A)∨(∃ f,Z8 A.files name=some f∧e=.returned (.int .i64 0)∧Ze base w D A w' D (X4 f A))
theorem Qx {base:Nat} {w:World} {D:DSh} {A:Z4} (h:Zb base w D A) (name:ByteArray) {N:Nat} (hsm:A.Small N) (hN:N≤1000000000) :
  Calls Tryz.prog 83 #[.pointer (some ⟨D.pb,0,none⟩),.string name] w fun e w'=>Sq base w D A name e w':=by
 go_enter Tryz.func83,Tryz.ntmps83
 go_wp2_with fail
 refine (UV h name).mono ?_
 rintro e w1 ⟨rfl,rfl⟩
 unfold Sv
 cases hg:Z8 A.files name with
 | none =>
  simp only[Option.isSome_none,Wk,Option.map_none]
  have HH:=Lib.hid h
  clear h
  go_wp2
  go_ret
  exact .inl ⟨hg,rfl,Ze.refl HH.out⟩
 | some f =>
  simp only[Option.isSome_some,Wk,Option.map_some,if_true]
  have hf:=(h.ok.inf _ _ (Wy hg)).1
  have HG:=Lib.hid hg
  have HF:=Lib.hid hf
  have hn1:=hsm.now
  have hn0:=hsm.now0
  have k0:=Joins.cell_of_block h.blk 4
  have k1:=Joins.unfrozen_of_block h.blk 4
  simp only[List.getElem?_toArray,List.getElem?_cons_succ,List.getElem?_cons_zero] at k0
  have h3:=h.tick
  have hx3:Ext (Wn D A) w1 (w1.setCell ⟨D.pb,4,none⟩ (.int .i64 (A.now+1))):=(Ext.refl _ w1).setCell (p:=⟨D.pb,4,none⟩) (.inr (.inl rfl)) _
  obtain ⟨w3,hw3⟩:=Je (w1.setCell ⟨D.pb,4,none⟩ (.int .i64 (A.now+1)))
  rw[hw3] at h3 hx3
  have hF3:=h3.file f HF.out
  obtain ⟨hbf,hfb3,qs,hqo,hql,hqp⟩:=id hF3
  obtain ⟨va,vcap,hvc⟩:∃ va vcap,D.rv f=.slice va qs.length vcap:=by
   rcases hqo.eq_slice with ⟨e,e2⟩|⟨g,c,e,_⟩
   ·exact ⟨none,0,by rw[e,e2];rfl⟩
   ·exact ⟨_,_,e⟩
  have hlq:qs.length≤1000000001:=by have:=hsm.pcs f HF.out;dsimp only at hql;omega
  have b3:=h3.blk
  have c4:=Joins.cell_of_block b3 4
  have f0:=Joins.cell_of_block hfb3 0
  simp only[List.getElem?_toArray,List.getElem?_cons_succ,List.getElem?_cons_zero,hvc] at c4 f0
  have HX3:=Lib.hid hx3
  have HVC:=Lib.hid hvc
  have HQO:=Lib.hid hqo
  have HQP:=Lib.hid hqp
  have HQL:=Lib.hid hql
  have H3:=Lib.hid h3
  clear h h3 hF3 hfb3 hqo hql hqp hvc b3 hsm hx3 hf hg
  go_wp2_with fail
  go_loopg [30] qs.length (fun g iv wr=>∃ k:Nat,g=qs.length - k∧k≤qs.length∧iv=.int .i64 k∧Hid (Own Pc.cells 3 131 base wr (D.rv f) (Vq (A.now+1) k qs)∧Ext (fun b=>(D.rv f).ownBlock=some b) w3 wr))
  case atStart=>exact ⟨0,by omega,by omega,rfl,Lib.hid ⟨by rw[Z5Z];exact HQO.out,Ext.refl _ _⟩⟩
  case round =>
   obtain ⟨k,hg,hk,rfl,hU⟩:=hrel
   have HGG:=Lib.hid hg
   clear hg
   by_cases hkl:k<qs.length
   ·obtain ⟨q,hq⟩:∃ q,qs[k]?=some q:=⟨_,List.getElem?_eq_getElem hkl⟩
    have hlen:=Z6U (A.now+1) k qs
    obtain ⟨g,cap,e1,hgc,hcm⟩:∃ g cap,va=some ⟨g,0,none⟩∧qs.length≤vcap∧vcap≤maxLen:=by
     have ho:=HQO.out
     rw[HVC.out] at ho
     rcases ho.eq_slice with ⟨_,e2⟩|⟨g,c,e,_⟩
     ·rw[e2] at hkl;simp at hkl
     ·cases e
      obtain ⟨_,_,e3,e4,e5,_⟩:=ho.slice Pc.len
      cases e3
      exact ⟨g,0,rfl,e4,e5⟩
    subst e1
    unfold maxLen at hcm
    have ho:=hU.out.1
    rw[HVC.out,←hlen] at ho
    have hrw:∀ b,(D.rv f).ownBlock=some b→b=g:=fun b hb=>by rw[HVC.out] at hb;exact (Option.some.inj hb).symm
    have hgp:g≠D.pb:=ZO (Zk HQO.out (by rw[HVC.out];rfl)) H3.out.tpb (by decide)
    have hgf:g≠f:=ZO (Zk HQO.out (by rw[HVC.out];rfl)) (H3.out.file f HF.out).tag (by decide)
    have c4':=hU.out.2.keep c4 (fun e=>hgp (hrw _ e).symm)
    have f0':=hU.out.2.keep f0 (fun e=>hgf (hrw _ e).symm)
    have q2:=ho.cellAt Pc.len (Z0v hq) (j:=2) rfl
    have q3:=ho.free (k*3+2)
    have hkk:(k:Int)<(qs.length:Int):=by omega
    by_cases hs:q.safe=0
    ·have hy:Pc.cells (SC (A.now+1) q)=(Pc.cells q).set 2 (.int .i64 (A.now+1)):=by unfold SC;rw[if_pos hs];rfl
     have ho2:=ho.setAt Pc.len (Z0v hq) (j:=2) (by omega) hy
     rw[←Z1u hq,hlen,←HVC.out] at ho2
     have hx2:Ext (fun b=>(D.rv f).ownBlock=some b) w3 (wr.setCell ⟨g,k*3+2,none⟩ (.int .i64 (A.now+1))):=hU.out.2.setCell (.inr (by rw[HVC.out];rfl)) _
     rw[hs] at q2
     have HO2:=Jh (And.intro ho2 hx2)
     clear ho ho2 hx2 hU hrw hs hq hy hlen
     go_wp2_with fail
     go_roundg (qs.length - (k+1))
     case measure=>rw[HGG.out];omega
     case rel=>exact ⟨k+1,rfl,by omega,by simp,HO2⟩
    ·have hy:SC (A.now+1) q=q:=by unfold SC;rw[if_neg hs]
     have hk2:Vq (A.now+1) (k+1) qs=Vq (A.now+1) k qs:=by
      rw[Z1u hq,hy]
      obtain ⟨hk',e⟩:=List.getElem?_eq_some_iff.1 (Z0v (n:=A.now+1) hq)
      conv=>lhs;rw[←e]
      exact List.set_getElem_self hk'
     have HO2:Hid (Own Pc.cells 3 131 base wr (D.rv f) (Vq (A.now+1) (k+1) qs)∧Ext (fun b=>(D.rv f).ownBlock=some b) w3 wr):=Jh (by rw[hk2];exact hU.out)
     clear ho hU hrw hq hy hlen hk2
     go_wp2_with fail
     go_roundg (qs.length - (k+1))
     case measure=>rw[HGG.out];omega
     case rel=>exact ⟨k+1,rfl,by omega,by simp,HO2⟩
   ·obtain rfl:k=qs.length:=by omega
    have HT:=Jh (Z6c HX3.out H3.out HF.out HQL.out HQP.out hU.out.2 (by rw[←Z6J];exact hU.out.1))
    clear hU
    go_wp2
    go_ret
    exact .inr ⟨f,HG.out,rfl,HT.out⟩
def Zp (ps:List PcA):List UInt8:=ps.flatMap (·.bs)
theorem VQ (ps:List PcA):(Zp ps).length=ZB ps:=by simp[Zp,ZB,List.length_flatMap]
theorem Z3K {ps:List PcA} {k:Nat} {p:PcA} (h:ps[k]?=some p):Zp (ps.take (k+1))=Zp (ps.take k)++p.bs:=by
 unfold Zp
 rw[List.take_add_one,h,Option.toList_some,List.flatMap_append]
 simp
theorem QW (ps:List PcA) (k:Nat):ZB (ps.take k)≤ZB ps:=by
 unfold ZB
 conv=>rhs;rw[←List.take_append_drop k ps]
 rw[List.map_append,List.sum_append]
 omega
theorem Z12 {ps:List PcA} {k:Nat} {p:PcA} (h:ps[k]?=some p):ZB (ps.take k)+p.bs.length≤ZB ps:=by
 have:=QW ps (k+1)
 rw[List.take_add_one,h,Option.toList_some,VW] at this
 exact this
def Vs (base:Nat) (w:World) (D:DSh) (A:Z4) (name:ByteArray) (e:Ending) (w':World):Prop :=
 (Z8 A.files name=none∧e=.returned (.tuple #[.slice none 0 0,.int .i64 61])∧w'=w) ∨
 (∃ f v,Z8 A.files name=some f∧e=.returned (.tuple #[v,.int .i64 0])∧Own u8c 1 5 w.heap.size w' v (Zp (A.fs f))∧Below w.heap.size w w')
theorem U8 {base:Nat} {w:World} {D:DSh} {A:Z4} (h:Zb base w D A) (name:ByteArray) {N:Nat} (hsm:A.Small N) (hN:N≤1000000000) :
  Calls Tryz.prog 35 #[.pointer (some ⟨D.pb,0,none⟩),.string name] w fun e w'=>Vs base w D A name e w':=by
 obtain ⟨i0,hi,hz0,hz1,hz2⟩:=info_parts YA
 go_enter Tryz.func35,Tryz.ntmps35
 go_wp2_with fail
 refine (UV h name).mono ?_
 rintro e w1 ⟨rfl,rfl⟩
 unfold Sv
 cases hg:Z8 A.files name with
 | none =>
  simp only[Option.isSome_none,Wk,Option.map_none]
  have HH:=Lib.hid h
  clear h
  go_wp2
  refine bodyPost_ret (results_tmp2 rfl _ _ _) rfl ?_
  exact .inl ⟨hg,rfl,rfl⟩
 | some f =>
  simp only[Option.isSome_some,Wk,Option.map_some,if_true]
  have hf:=(h.ok.inf _ _ (Wy hg)).1
  have hsz:=h.ok.sz f hf
  have HG:=Lib.hid hg
  have hF3:=h.file f hf
  obtain ⟨hbf,hfb3,qs,hqo,hql,hqp⟩:=id hF3
  obtain ⟨va,vcap,hvc⟩:∃ va vcap,D.rv f=.slice va qs.length vcap:=by
   rcases hqo.eq_slice with ⟨e,e2⟩|⟨g,c,e,_⟩
   ·exact ⟨none,0,by rw[e,e2];rfl⟩
   ·exact ⟨_,_,e⟩
  have hlq:qs.length≤1000000001:=by have:=hsm.pcs f hf;omega
  have f0:=Joins.cell_of_block hfb3 0
  simp only[List.getElem?_toArray,List.getElem?_cons_succ,List.getElem?_cons_zero,hvc] at f0
  have HVC:=Lib.hid hvc
  have HQO:=Lib.hid hqo
  have HQP:=Lib.hid hqp
  have HQL:=Lib.hid hql
  clear h hF3 hfb3 hqo hql hqp hvc hsm hf hg
  go_wp2_with fail
  go_loopg [8,25] qs.length (fun g vv iv wr=>∃ (k:Nat) (s:Sl),g=qs.length - k∧k≤qs.length∧vv=.slice s.a s.n s.cap∧iv=.int .i64 k∧Hid (Own u8c 1 5 w1.heap.size wr (.slice s.a s.n s.cap) (Zp ((A.fs f).take k))∧Below w1.heap.size w1 wr))
  case atStart=>exact ⟨0,⟨none,0,0⟩,by omega,by omega,rfl,rfl,Lib.hid ⟨by simp only[List.take_zero];exact Own.nil,Below.refl _ _⟩⟩
  case round =>
   obtain ⟨k,⟨sa,sn,sc⟩,hg,hk,rfl,rfl,hU⟩:=hrel
   dsimp only at hU ⊢
   have HGG:=Lib.hid hg
   clear hg
   by_cases hkl:k<qs.length
   ·obtain ⟨q,hq⟩:∃ q,qs[k]?=some q:=⟨_,List.getElem?_eq_getElem hkl⟩
    obtain ⟨p,hp⟩:∃ p,(A.fs f)[k]?=some p:=⟨_,List.getElem?_eq_getElem (by rw[←HQL.out];exact hkl)⟩
    obtain ⟨⟨qa,qn,qc⟩,qcame,qsafe⟩:=q
    have ho:=HQO.out
    rw[HVC.out] at ho
    obtain ⟨g,e1⟩:∃ g,va=some ⟨g,0,none⟩:=by
     rcases ho.eq_slice with ⟨_,e2⟩|⟨g,c,e,_⟩
     ·rw[e2] at hkl;simp at hkl
     ·cases e;exact ⟨g,rfl⟩
    subst e1
    have q0:=ZH hU.out.2 (ho.cellAt Pc.len hq (j:=0) rfl)
    have q1:=ZH hU.out.2 (ho.cellAt Pc.len hq (j:=1) rfl)
    have q2:=ZH hU.out.2 (ho.cellAt Pc.len hq (j:=2) rfl)
    simp only[Nat.add_zero] at q0
    have hkk:(k:Int)<(qs.length:Int):=by omega
    have hsl:=((HQP.out k _ _ hq hp).1.slice Z6).below hU.out.2
    have hb1:=Z12 hp
    have hal:Below wr.heap.size wr (wr.alloc (.cells #[.slice qa qn qc,.int .i64 qcame,.int .i64 qsafe] 131)):=(Below.refl _ _).alloc (Nat.le_refl _) _
    have hbl:=VQ ((A.fs f).take k)
    obtain ⟨v',w',hr,hown,hx'⟩:=Yd (P:=Tryz.prog) 22 22 i0 _ 1 Tryz.underlying22 hi hz0 hz1 hz2 rfl (by omega) Z6 XU (hU.out.1.alloc _) (hsl.below hal) (by unfold maxLen;omega) (by omega) (by have:=hU.out.2.size;simp;omega)
    rw[←Z3K hp] at hown
    have hB:=Ext.new (hU.out.2.alloc hU.out.2.size (.cells #[.slice qa qn qc,.int .i64 qcame,.int .i64 qsafe] 131)) hx' (fun i hi _ e=>by have:=(hU.out.1.blk i e).1;omega) (by have:=hU.out.2.size;simp;omega)
    obtain ⟨s',hs'⟩:=hown.slv
    subst hs'
    change (Builtin.append_ _ _ _).run _ _=.ok (.slice s'.a s'.n s'.cap) w' at hr
    have HR:=Lib.hid hr
    have HN:=Jh (And.intro hown hB)
    clear ho hU hq hp hsl hb1 hal hbl hr hown hx' hB
    go_wp2_with (at_builtin;refine YV rfl _ _ _ rfl rfl rfl HR.out ?_)
    go_roundg (qs.length - (k+1))
    case measure=>rw[HGG.out];omega
    case rel=>exact ⟨k+1,s',rfl,by omega,rfl,by simp,HN⟩
   ·obtain rfl:k=qs.length:=by omega
    have hown:=hU.out.1
    rw[HQL.out,List.take_length] at hown
    have HN:=Jh (And.intro hown hU.out.2)
    clear hU hown
    go_wp2
    refine bodyPost_ret (results_tmp2 rfl _ _ _) rfl ?_
    exact .inr ⟨f,_,HG.out,rfl,HN.out.1,HN.out.2⟩
end Go.Proofs.YtgmdimbiipemhaaGreatDoor
