/- ViewKinds, part 11 of what the proof leans on (made short by a program). -/
import Derived.Test.YtlgipkemoldckaaGreatDoorVkZ10
import Derived.OpenShut
set_option linter.unusedSimpArgs false
set_option linter.unusedVariables false
set_option linter.unusedSectionVars false
set_option maxRecDepth 20000
set_option maxHeartbeats 30000000
namespace Go.Proofs.YtlgipkemoldckaaGreatDoor
open Go.ChangeShapes Go.WideShapes Go.RowKit Go.Deep
theorem SZ {α:Type} {l:List α} {i:Nat} {a:α} (h:l[i]?=some a):(l.drop i).take 1=[a]:=by
 obtain ⟨hi,rfl⟩:=List.getElem?_eq_some_iff.1 h
 rw[List.drop_eq_getElem_cons hi]
 rfl
section
variable {H:Type} {enc:TypeId × Value→H} {w:World} {base:Nat} {spare:Nat→Bool} {held:Bool}
theorem SE {fuel:Nat} {a b c:Value} {x:DataW H × List MemPlace} (h:DataW.trod enc Tryz.prog w base spare held fuel 170 [a,b,c]=some x):∃ (s:St) (q:Bool),a=.int .i64 s.n∧b=.int .i64 s.r∧c=.bool q:=by
 obtain ⟨xs,n,_,_,hlen,hxl,hf⟩:=DataW.trod_struct Tryz.underlying170 h
 have hc1:Tryz.prog.cellsOf 23=2:=by kernel_rfl
 have hc3:Tryz.prog.cellsOf 4=1:=by kernel_rfl
 have f0:DataW.trod enc Tryz.prog w base spare held n 23 [a,b]=xs[0]?:=by simpa [hc1] using hf 0 _ rfl
 have f1:DataW.trod enc Tryz.prog w base spare held n 4 [c]=xs[1]?:=by simpa [hc3] using hf 1 _ rfl
 simp at hxl
 obtain ⟨s,hs⟩:=YK (f0.trans (List.getElem?_eq_getElem (by omega)))
 obtain ⟨q,hq,_⟩:=DataW.trod_bool Tryz.underlying4 (f1.trans (List.getElem?_eq_getElem (by omega)))
 simp at hs hq
 exact ⟨s,q,hs.1,hs.2,hq⟩
theorem Ud {fuel:Nat} {a:Value} {T:TypeId} {x:DataW H × List MemPlace} (hu:Tryz.prog.underlying T=some (.int .i64)) (h:DataW.trod enc Tryz.prog w base spare held fuel T [a]=some x):∃ z:Int,a=.int .i64 z:=by
 obtain ⟨p,hp,_⟩:=DataW.trod_int hu h
 simp at hp
 exact ⟨p,hp⟩
theorem Z2q {fuel:Nat} {a0 a1 a2 a3 a4 a5 a6 a7:Value} {x:DataW H × List MemPlace} (h:DataW.trod enc Tryz.prog w base spare held fuel 177 [a0,a1,a2,a3,a4,a5,a6,a7]=some x) :
  ∃ z0 z1 z2 z3 z4 z5 z6 z7:Int,[a0,a1,a2,a3,a4,a5,a6,a7]=[.int .i64 z0,.int .i64 z1,.int .i64 z2,.int .i64 z3,.int .i64 z4,.int .i64 z5,.int .i64 z6,.int .i64 z7]:=by
 obtain ⟨xs,m,_,_,hlen,hxl,hf⟩:=DataW.trod_array (n:=8) (e:=3) Tryz.underlying177 h
 have hc2:Tryz.prog.cellsOf 3=1:=by kernel_rfl
 have hq:∀ i (hi:i<8) (a:Value),[a0,a1,a2,a3,a4,a5,a6,a7][i]?=some a→∃ z:Int,a=.int .i64 z:=fun i hi a ha=>by
  have:=hf i hi
  rw[hc2,Nat.mul_one,SZ ha] at this
  exact Ud Tryz.underlying3 (this.trans (List.getElem?_eq_getElem (by omega)))
 obtain ⟨z0,rfl⟩:=hq 0 (by omega) a0 rfl
 obtain ⟨z1,rfl⟩:=hq 1 (by omega) a1 rfl
 obtain ⟨z2,rfl⟩:=hq 2 (by omega) a2 rfl
 obtain ⟨z3,rfl⟩:=hq 3 (by omega) a3 rfl
 obtain ⟨z4,rfl⟩:=hq 4 (by omega) a4 rfl
 obtain ⟨z5,rfl⟩:=hq 5 (by omega) a5 rfl
 obtain ⟨z6,rfl⟩:=hq 6 (by omega) a6 rfl
 obtain ⟨z7,rfl⟩:=hq 7 (by omega) a7 rfl
 exact ⟨z0,z1,z2,z3,z4,z5,z6,z7,rfl⟩
theorem Z3j {fuel:Nat} {cs:List Value} {x:DataW H × List MemPlace} (h:DataW.trod enc Tryz.prog w base spare held fuel 181 cs=some x):∃ y:OpD,cs=y.cells:=by
 obtain ⟨xs,n,_,_,hlen,hxl,hf⟩:=DataW.trod_struct Tryz.underlying181 h
 have hc:Tryz.prog.cellsOf 181=26:=by kernel_rfl
 have c1:Tryz.prog.cellsOf 23=2:=by kernel_rfl
 have c2:Tryz.prog.cellsOf 3=1:=by kernel_rfl
 have c3:Tryz.prog.cellsOf 177=8:=by kernel_rfl
 have c4:Tryz.prog.cellsOf 178=1:=by kernel_rfl
 have c5:Tryz.prog.cellsOf 179=1:=by kernel_rfl
 have c6:Tryz.prog.cellsOf 9=1:=by kernel_rfl
 have c7:Tryz.prog.cellsOf 170=3:=by kernel_rfl
 rw[hc] at hlen
 match cs,hlen with
 | [a0,a1,a2,a3,a4,a5,a6,a7,a8,a9,a10,a11,a12,a13,a14,a15,a16,a17,a18,a19,a20,a21,a22,a23,a24,a25],_ =>
  have f0:DataW.trod enc Tryz.prog w base spare held n 23 [a0,a1]=xs[0]?:=by simpa [c1] using hf 0 _ rfl
  have f1:DataW.trod enc Tryz.prog w base spare held n 177 [a2,a3,a4,a5,a6,a7,a8,a9]=xs[1]?:=by simpa [c3] using hf 1 _ rfl
  have f2:DataW.trod enc Tryz.prog w base spare held n 178 [a10]=xs[2]?:=by simpa [c4] using hf 2 _ rfl
  have f3:DataW.trod enc Tryz.prog w base spare held n 23 [a11,a12]=xs[3]?:=by simpa [c1] using hf 3 _ rfl
  have f4:DataW.trod enc Tryz.prog w base spare held n 179 [a13]=xs[4]?:=by simpa [c5] using hf 4 _ rfl
  have f5:DataW.trod enc Tryz.prog w base spare held n 3 [a14]=xs[5]?:=by simpa [c2] using hf 5 _ rfl
  have f6:DataW.trod enc Tryz.prog w base spare held n 23 [a15,a16]=xs[6]?:=by simpa [c1] using hf 6 _ rfl
  have f7:DataW.trod enc Tryz.prog w base spare held n 9 [a17]=xs[7]?:=by simpa [c6] using hf 7 _ rfl
  have f8:DataW.trod enc Tryz.prog w base spare held n 9 [a18]=xs[8]?:=by simpa [c6] using hf 8 _ rfl
  have f9:DataW.trod enc Tryz.prog w base spare held n 9 [a19]=xs[9]?:=by simpa [c6] using hf 9 _ rfl
  have f10:DataW.trod enc Tryz.prog w base spare held n 170 [a20,a21,a22]=xs[10]?:=by simpa [c7] using hf 10 _ rfl
  have f11:DataW.trod enc Tryz.prog w base spare held n 170 [a23,a24,a25]=xs[11]?:=by simpa [c7] using hf 11 _ rfl
  simp at hxl
  obtain ⟨s0,h0⟩:=YK (f0.trans (List.getElem?_eq_getElem (by omega)))
  obtain ⟨z0,z1,z2,z3,z4,z5,z6,z7,h1⟩:=Z2q (f1.trans (List.getElem?_eq_getElem (by omega)))
  obtain ⟨k,h2⟩:=Ud Tryz.underlying178 (f2.trans (List.getElem?_eq_getElem (by omega)))
  obtain ⟨s3,h3⟩:=YK (f3.trans (List.getElem?_eq_getElem (by omega)))
  obtain ⟨sd,h4⟩:=Ud Tryz.underlying179 (f4.trans (List.getElem?_eq_getElem (by omega)))
  obtain ⟨ch,h5⟩:=Ud Tryz.underlying3 (f5.trans (List.getElem?_eq_getElem (by omega)))
  obtain ⟨s6,h6⟩:=YK (f6.trans (List.getElem?_eq_getElem (by omega)))
  obtain ⟨ky,h7,_⟩:=DataW.trod_string Tryz.underlying9 (f7.trans (List.getElem?_eq_getElem (by omega)))
  obtain ⟨nm,h8,_⟩:=DataW.trod_string Tryz.underlying9 (f8.trans (List.getElem?_eq_getElem (by omega)))
  obtain ⟨vl,h9,_⟩:=DataW.trod_string Tryz.underlying9 (f9.trans (List.getElem?_eq_getElem (by omega)))
  obtain ⟨s10,q10,i0,i1,i2⟩:=SE (f10.trans (List.getElem?_eq_getElem (by omega)))
  obtain ⟨s11,q11,j0,j1,j2⟩:=SE (f11.trans (List.getElem?_eq_getElem (by omega)))
  simp only[List.cons.injEq,and_true] at h0 h1 h3 h6 h7 h8 h9
  exact ⟨⟨s0,z0,z1,z2,z3,z4,z5,z6,z7,k,s3,sd,ch,s6,ky,nm,vl,s10,q10,s11,q11⟩,by simp only[OpD.cells,h0,h1,h2,h3,h4,h5,h6,h7,h8,h9,i0,i1,i2,j0,j1,j2]⟩
end
section
variable {H:Type} {enc:TypeId × Value→H} {P:Program} {w:World} {base:Nat} {spare:Nat→Bool} {held:Bool}
theorem WM {α:Type} {ea:α→List Value} {k:Nat} {t e:TypeId} {fuel:Nat} {cs:List Value} {x:DataW H × List MemPlace} {p:α→Prop} (ht:P.underlying t=some (.slice e)) (hk:P.cellsOf e=k) (hk0:0<k) (hlen:∀ x,(ea x).length=k)
  (hel:∀ fuel cs x,DataW.trod enc P w base spare held fuel e cs=some x→∃ y,cs=ea y∧p y) (h:DataW.trod enc P w base spare held fuel t cs=some x):∃ v l,cs=[v]∧Z5 ea k w v l∧∀ y∈l,p y:=by
 rcases open_slice ht h with ⟨hcs,_⟩|⟨a,len0,cap0,m,n,D,Pl,hcs,hb,hl,hm,hmm,hx,hi⟩
 ·exact ⟨_,[],hcs,⟨none,0,rfl,Nat.le_refl _,Nat.zero_le _,fun hn=>absurd rfl hn⟩,fun y hy=>by cases hy⟩
 ·have hlm:len0≤m:=by rw[hmm];split <;> omega
  obtain ⟨l,h1,h2⟩:=Tj (p:=fun i (x:α)=>(∀ j u,(ea x)[j]?=some u→w.cell? (a.add (i*k+j))=some u)∧p x) len0 (fun i hi'=>by
   obtain ⟨cs',hc,ht'⟩:=hi i (by omega)
   obtain ⟨y,rfl,hp⟩:=hel _ _ _ ht'
   refine ⟨y,fun j u hj=>?_,hp⟩
   obtain ⟨_,hcl,hat⟩:=World.cells?_some hc
   have hjl:=(List.getElem?_eq_some_iff.1 hj).1
   rw[hlen] at hjl
   have:=hat j (by rw[hk];exact hjl)
   rw[hk,Go.Deep.add_add,hj] at this
   exact this)
  subst h1
  refine ⟨_,l,hcs,⟨some a,cap0,rfl,hl,hm,fun hne=>?_⟩,fun y hy=>?_⟩
  ·obtain ⟨x0,hx0⟩:∃ x0,l[0]?=some x0:=by
    cases l with
    | nil=>exact absurd rfl hne
    | cons x r=>exact ⟨x,rfl⟩
   obtain ⟨u0,hu0⟩:∃ u0,(ea x0)[0]?=some u0:=by
    have:=hlen x0
    cases hq:ea x0 with
    | nil=>rw[hq] at this;simp at this;omega
    | cons x r=>exact ⟨x,rfl⟩
   have hz:=(h2 0 x0 hx0).1 0 u0 hu0
   obtain ⟨b,off,spot⟩:=a
   have hspot:spot=none:=by
    simp[Addr.add,World.cell?] at hz
    cases spot with
    | none=>rfl
    | some s=>simp at hz;split at hz <;> simp at hz
   subst hspot
   refine ⟨b,off,rfl,fun i x hi' j u hj=>?_⟩
   have:=(h2 i x hi').1 j u hj
   have e:(Addr.add ⟨b,off,none⟩ (i*k+j))=⟨b,off+i*k+j,none⟩:=by
    unfold Addr.add
    split
    ·rename_i h0;have:i*k=0∧j=0:=by omega
     simp[this.1,this.2]
    ·simp[Nat.add_assoc]
   rw[e] at this
   exact this
  ·obtain ⟨i,hi'⟩:=List.getElem?_of_mem hy
   exact (h2 i y hi').2
end
structure Z1M (w:World) (v:Value) (l:List El) (mv:List RMv) (ws:List Z8) (ms:List OpD):Prop where
 ex:∃ (s0 s1 s2 s3:Sl),v=.agg #[.slice s0.a s0.n s0.cap,.slice s1.a s1.n s1.cap,.slice s2.a s2.n s2.cap,.slice s3.a s3.n s3.cap]∧Z5 El.cells 4 w (.slice s0.a s0.n s0.cap) l∧Z5 RMv.cells 7 w (.slice s1.a s1.n s1.cap) mv∧Z5 Z8.cells 6 w (.slice s2.a s2.n s2.cap) ws∧Z5 OpD.cells 26 w (.slice s3.a s3.n s3.cap) ms
section
variable {H:Type} {enc:TypeId × Value→H} {w:World} {base:Nat} {spare:Nat→Bool} {held:Bool}
theorem Z1A {r:Reach} {b0:Nat} {v:Value} {d:DataW H} {p:List MemPlace} (hv:Value.okWide Tryz.prog w r b0 39 v) (h:DataW.Trod enc Tryz.prog w base spare held 39 v d p):∃ l mv ws ms,Z1M w v l mv ws ms:=by
 obtain ⟨cs,rfl,_⟩:=okWide_struct Tryz.underlying39 hv
 obtain ⟨fuel,hf⟩:=h
 obtain ⟨xs,n,_,_,hlen,hxl,hf⟩:=DataW.trod_struct Tryz.underlying39 hf
 have hc:Tryz.prog.cellsOf 39=4:=by kernel_rfl
 have c1:Tryz.prog.cellsOf 34=1:=by kernel_rfl
 have c2:Tryz.prog.cellsOf 35=1:=by kernel_rfl
 have c3:Tryz.prog.cellsOf 36=1:=by kernel_rfl
 have c4:Tryz.prog.cellsOf 37=1:=by kernel_rfl
 rw[hc] at hlen
 have hcs:(Value.agg cs).cells.toList=cs.toList:=rfl
 rw[hcs] at hf
 obtain ⟨cs⟩:=cs
 match cs,hlen with
 | [a0,a1,a2,a3],_ =>
  have f0:DataW.trod enc Tryz.prog w base spare held n 34 [a0]=xs[0]?:=by simpa [c1] using hf 0 _ rfl
  have f1:DataW.trod enc Tryz.prog w base spare held n 35 [a1]=xs[1]?:=by simpa [c2] using hf 1 _ rfl
  have f2:DataW.trod enc Tryz.prog w base spare held n 36 [a2]=xs[2]?:=by simpa [c3] using hf 2 _ rfl
  have f3:DataW.trod enc Tryz.prog w base spare held n 37 [a3]=xs[3]?:=by simpa [c4] using hf 3 _ rfl
  simp at hxl
  obtain ⟨v0,l0,h0,g0,_⟩:=WM (ea:=El.cells) (k:=4) (p:=fun _=>True) Tryz.underlying34 (by kernel_rfl) (by omega) (fun _=>rfl) (fun _ _ _ h=>(Z39 h).imp fun _ e=>⟨e,trivial⟩) (f0.trans (List.getElem?_eq_getElem (by omega)))
  obtain ⟨v1,l1,h1,g1,_⟩:=WM (ea:=RMv.cells) (k:=7) (p:=fun _=>True) Tryz.underlying35 (by kernel_rfl) (by omega) (fun _=>rfl) (fun _ _ _ h=>(QZ h).imp fun _ e=>⟨e,trivial⟩) (f1.trans (List.getElem?_eq_getElem (by omega)))
  obtain ⟨v2,l2,h2,g2,_⟩:=WM (ea:=Z8.cells) (k:=6) (p:=fun _=>True) Tryz.underlying36 (by kernel_rfl) (by omega) (fun _=>rfl) (fun _ _ _ h=>(Z01 h).imp fun _ e=>⟨e,trivial⟩) (f2.trans (List.getElem?_eq_getElem (by omega)))
  obtain ⟨v3,l3,h3,g3,_⟩:=WM (ea:=OpD.cells) (k:=26) (p:=fun _=>True) Tryz.underlying37 (by kernel_rfl) (by omega) OpD.len (fun _ _ _ h=>(Z3j h).imp fun _ e=>⟨e,trivial⟩) (f3.trans (List.getElem?_eq_getElem (by omega)))
  obtain ⟨p0,q0,e0,_⟩:=id g0
  obtain ⟨p1,q1,e1,_⟩:=id g1
  obtain ⟨p2,q2,e2,_⟩:=id g2
  obtain ⟨p3,q3,e3,_⟩:=id g3
  simp only[List.cons.injEq,and_true] at h0 h1 h2 h3
  subst h0 h1 h2 h3 e0 e1 e2 e3
  exact ⟨l0,l1,l2,l3,⟨⟨p0,l0.length,q0⟩,⟨p1,l1.length,q1⟩,⟨p2,l2.length,q2⟩,⟨p3,l3.length,q3⟩,rfl,g0,g1,g2,g3⟩⟩
end
end Go.Proofs.YtlgipkemoldckaaGreatDoor
namespace Go.Proofs.YtlgipkemoldckaaGreatDoor
open Go.RowKit
def RK (mv:List RMv) (w:World) (e:Ending) (w':World):Prop:=∃ v A,e=.returned v∧Own Ch.cells 5 53 w.heap.size w' v A∧Zo (Y1 (ZQ mv)) A∧Below w.heap.size w w'
theorem Z1H {W:World} {a:Option Addr} {n c:Nat} {l:List RMv} (h:Z5 RMv.cells 7 W (.slice a n c) l) {k:Nat} {x:RMv} (hx:l[k]?=some x):∃ b o,a=some ⟨b,o,none⟩∧W.cell? ⟨b,o+k*7,none⟩=some (.int .i64 x.at_.n)∧W.cell? ⟨b,o+k*7+1,none⟩=some (.int .i64 x.at_.r) ∧
  W.cell? ⟨b,o+k*7+2,none⟩=some (.int .i64 x.block.n)∧W.cell? ⟨b,o+k*7+3,none⟩=some (.int .i64 x.block.r)∧W.cell? ⟨b,o+k*7+4,none⟩=some (.int .i64 x.under.n)∧W.cell? ⟨b,o+k*7+5,none⟩=some (.int .i64 x.under.r)∧W.cell? ⟨b,o+k*7+6,none⟩=some (.string x.key):=by
 obtain ⟨a',c',e,_,_,hh⟩:=h
 injection e with e1 _ _
 subst e1
 obtain ⟨b,o,rfl,h1⟩:=hh (by intro e;rw[e] at hx;simp at hx)
 have:=h1 k x hx
 exact ⟨b,o,rfl,this 0 _ rfl,this 1 _ rfl,this 2 _ rfl,this 3 _ rfl,this 4 _ rfl,this 5 _ rfl,this 6 _ rfl⟩
theorem Z2L (a0 a1 a2 a3:Option Addr) (n0 n1 n2 n3 c0 c1 c2 c3:Nat) (mv:List RMv) (w:World) (h:Z5 RMv.cells 7 w (.slice a1 n1 c1) mv) (hl:mv.length≤60) :
  Calls Tryz.prog 20 #[.agg #[.slice a0 n0 c0,.slice a1 n1 c1,.slice a2 n2 c2,.slice a3 n3 c3]] w fun e w'=>RK mv w e w':=by
 have hnl:=h.len
 have hnn:n1≤9223372036854775807:=by omega
 have hB0:Below w.heap.size w ((w.alloc (.cells #[.slice a0 n0 c0,.slice a1 n1 c1,.slice a2 n2 c2,.slice a3 n3 c3] 39)).alloc (.cells #[.slice none 0 0] 85)):=((Below.refl _ _).alloc (Nat.le_refl _) _).alloc (by simp) _
 have hz1:((w.alloc (.cells #[.slice a0 n0 c0,.slice a1 n1 c1,.slice a2 n2 c2,.slice a3 n3 c3] 39)).alloc (.cells #[.slice none 0 0] 85)).heap.size=w.heap.size+2:=by simp
 have x1:((w.alloc (.cells #[.slice a0 n0 c0,.slice a1 n1 c1,.slice a2 n2 c2,.slice a3 n3 c3] 39)).alloc (.cells #[.slice none 0 0] 85)).cell? ⟨w.heap.size,1,none⟩=some (.slice a1 n1 c1):=by go_simp
 have htr:YM (w.heap.size+1) ((w.alloc (.cells #[.slice a0 n0 c0,.slice a1 n1 c1,.slice a2 n2 c2,.slice a3 n3 c3] 39)).alloc (.cells #[.slice none 0 0] 85)) (w.heap.size+1) (.slice none 0 0) []:=⟨by have:=World.alloc_heap_new (w.alloc (.cells #[.slice a0 n0 c0,.slice a1 n1 c1,.slice a2 n2 c2,.slice a3 n3 c3] 39)) (.cells #[.slice none 0 0] 85);rwa [World.size_alloc] at this,Own.nil,Nat.le_refl _⟩
 have HH:=Lib.hid h
 have HB0:=Lib.hid hB0
 have HZ1:=Lib.hid hz1
 have HNL:=Jh (And.intro hnl hl)
 have HTR:=Lib.hid htr
 clear h hB0 hz1 hnl hl htr
 go_enter Tryz.func20,Tryz.ntmps20
 go_upto_region 2 with fail
 generalize ((w.alloc (.cells #[.slice a0 n0 c0,.slice a1 n1 c1,.slice a2 n2 c2,.slice a3 n3 c3] 39)).alloc (.cells #[.slice none 0 0] 85))=w1 at *
 go_wp2_with fail
 go_loopg [4] n1 (fun g iv wr=>∃ k:Nat,g=n1 - k∧k≤n1∧iv=.int .i64 k∧Hid (∃ v L,YM (w.heap.size+1) wr (w.heap.size+1) v L∧YT L (ZQ (mv.take k)))∧Hid (Below (w.heap.size+1) w1 wr))
 case atStart=>exact ⟨0,by omega,Nat.zero_le _,rfl,Lib.hid ⟨_,[],HTR.out,rfl,List.Pairwise.nil⟩,Jh (Below.refl _ _)⟩
 case round =>
  obtain ⟨k,hg,hk,rfl,HP,HB⟩:=hrel
  have HG:=Lib.hid hg
  clear hg
  have HBW:=Jh (HB0.out.trans (HB.out.mono (by omega)))
  have y1:=x1
  have hcl:(ZQ (mv.take k)).length≤60:=Nat.le_trans (Sv _) (by rw[List.length_take];have:=HNL.out.2;omega)
  have HCL:=Lib.hid hcl
  obtain ⟨v,L,ht,hc⟩:=HP.out
  have HT:=Lib.hid ht
  have HC:=Lib.hid hc
  have hLl:L.length≤60:=by rw[hc.len];exact hcl
  have HLL:=Lib.hid hLl
  have hzr:=HB.out.size
  have HZR:=Lib.hid hzr
  clear ht hc hLl hcl hzr
  replace x1:wr.cell? ⟨w.heap.size,1,none⟩=some (.slice a1 n1 c1):=by
   have:=HB.out.block w.heap.size (by omega)
   simp only[World.cell?] at x1 ⊢
   rw[this];exact x1
  by_cases hkl:k<n1
  ·obtain ⟨⟨⟨an,ar⟩,⟨bn,br⟩,⟨un,ur⟩,ky⟩,hx⟩:∃ x,mv[k]?=some x:=⟨_,List.getElem?_eq_getElem (by have:=HNL.out.1;omega)⟩
   obtain ⟨b,o,rfl,z0,z1,z2,z3,z4,z5,z6⟩:=Z1H HH.out hx
   have hbl:b<w.heap.size:=Zj z0
   replace z0:=Z0 HBW.out z0
   replace z1:=Z0 HBW.out z1
   replace z2:=Z0 HBW.out z2
   replace z3:=Z0 HBW.out z3
   replace z4:=Z0 HBW.out z4
   replace z5:=Z0 HBW.out z5
   replace z6:=Z0 HBW.out z6
   simp only at z0 z1 z2 z3 z4 z5 z6
   have HX:=Lib.hid hx
   have hkk:(k:Int)<(n1:Int):=by omega
   have hnt:∀ q,q≤w.heap.size→¬ XU v (w.heap.size+1) q:=fun q hq hr=>by
    rcases hr with hr|hr
    ·omega
    ·have:=(HT.out.2.1.blk q hr).1;omega
   have HNT:=Lib.hid hnt
   have HBL:=Lib.hid hbl
   have HMV:Hid (Calls Tryz.prog 38 #[.pointer (some ⟨w.heap.size+1,0,none⟩),.agg #[.int .i64 an,.int .i64 ar],.agg #[.int .i64 bn,.int .i64 br],.agg #[.int .i64 un,.int .i64 ur],.string ky] wr.drew fun e w'=>V4 (w.heap.size+1) wr.drew (w.heap.size+1) v (ZQ (mv.take k)) ⟨an,ar⟩ ⟨bn,br⟩ ⟨un,ur⟩ ky e w'):=Jh (Z1c (B:=w.heap.size+1) (w:=wr.drew) (rb:=w.heap.size+1) (v:=v) (L:=L) ⟨an,ar⟩ ⟨bn,br⟩ ⟨un,ur⟩ ky HT.out (by show _≤wr.heap.size;have:=HZ1.out;have:=HZR.out;omega) HC.out (by have:=HLL.out;omega))
   clear hx hnt hbl y1
   go_upto_region 5 with fail
   go_region_held3 (fun W=>W.cell? ⟨w.heap.size,1,none⟩=some (.slice (some ⟨b,o,none⟩) n1 c1)∧W.cell? ⟨b,o+k*7,none⟩=some (.int .i64 an)∧W.cell? ⟨b,o+k*7+1,none⟩=some (.int .i64 ar)∧W.cell? ⟨b,o+k*7+2,none⟩=some (.int .i64 bn)∧W.cell? ⟨b,o+k*7+3,none⟩=some (.int .i64 br)∧W.cell? ⟨b,o+k*7+4,none⟩=some (.int .i64 un)∧W.cell? ⟨b,o+k*7+5,none⟩=some (.int .i64 ur)∧W.cell? ⟨b,o+k*7+6,none⟩=some (.string ky)) (first|exact ⟨x1,z0,z1,z2,z3,z4,z5,z6⟩|exact ⟨hx5.keep x1 (HNT.out _ (Nat.le_refl _)),hx5.keep z0 (HNT.out _ (Nat.le_of_lt HBL.out)),hx5.keep z1 (HNT.out _ (Nat.le_of_lt HBL.out)),hx5.keep z2 (HNT.out _ (Nat.le_of_lt HBL.out)),hx5.keep z3 (HNT.out _ (Nat.le_of_lt HBL.out)),hx5.keep z4 (HNT.out _ (Nat.le_of_lt HBL.out)),hx5.keep z5 (HNT.out _ (Nat.le_of_lt HBL.out)),hx5.keep z6 (HNT.out _ (Nat.le_of_lt HBL.out))⟩) ((go_at_call 38;((with_reducible refine HMV.out.mono ?_);rintro e w5 ⟨v5,L5,rfl,ht5,hc5,hx5⟩)))
   have HP5:Hid (∃ v L,YM (w.heap.size+1) w5 (w.heap.size+1) v L∧YT L (ZQ (mv.take (k+1)))):=Lib.hid ⟨v5,L5,ht5,by rw[Z0u HX.out];exact hc5⟩
   have HB5:Hid (Below (w.heap.size+1) w1 w5):=Jh (Ext.new HB.out (show Ext (XU v (w.heap.size+1)) wr w5 from ⟨hx5.os,hx5.tape,hx5.output,hx5.size,hx5.block⟩) (fun i hi _=>HNT.out i (by omega)) (by have:=HZ1.out;have:=HZR.out;omega))
   clear ht5 hc5 hx5
   go_wp2_with fail
   go_roundg (n1 - (k+1))
   case measure=>rw[HG.out];omega
   case rel=>exact ⟨k+1,rfl,hkl,by go_num,HP5,HB5⟩
  ·have hkk:¬ ((k:Int)<(n1:Int)):=by omega
   have HALL:Hid (Calls Tryz.prog 39 #[.pointer (some ⟨w.heap.size+1,0,none⟩)] wr fun e w'=>QJ wr (ZQ mv) e w'):=Jh (Z2O (B:=w.heap.size+1) (v:=v) (L:=L) HT.out (by have:=HC.out;rwa [List.take_of_length_le (by have:=HNL.out.1;omega)] at this) (by have:=HLL.out;omega))
   go_wp2_with fail
   refine HALL.out.mono ?_
   rintro e w6 ⟨v6,A,rfl,ho,hA,b6⟩
   have HF:Hid (RK mv w (.returned v6) w6):=Lib.hid ⟨v6,A,rfl,ho.mono (by have:=HBW.out.size;omega),hA,HBW.out.trans (b6.mono HBW.out.size)⟩
   clear ho hA b6
   go_wp2_with fail
   go_ret
   exact HF.out
theorem Xv (w:World) (l:Nat) (o:Obj):Ext (·=l) w (w.putObj l o) :=
 ⟨rfl,rfl,rfl,by simp[World.putObj],fun k hk hn=>World.putObj_heap_other (by omega)⟩
section
variable {K V:Type} [DecidableEq K] {ek:K→Value} {ev:V→Value} {w:World} {b:Nat} {l:List (K × V)}
theorem YG {w:World} {b:Nat} {es:Array MapEntry} {clock:Nat} (h:w.heap[b]?=some (.map es clock)) (es':Array MapEntry) (clock':Nat) (a:Addr):(w.putObj b (.map es' clock')).cell? a=w.cell? a:=by
 have hlt:b<w.heap.size:=(Array.getElem?_eq_some_iff.1 h).1
 by_cases e:a.block=b
 ·subst e
  have h2:(w.putObj a.block (.map es' clock')).heap[a.block]?=some (.map es' clock'):=World.putObj_heap_same hlt
  simp only[World.cell?,h,h2]
 ·exact World.cell?_of_block (w:=w) (World.putObj_heap_other (by omega))
theorem Z1d {l:List (K × V)} {k:K} (v:V) (h:Zr l k=none):Zr (l++[(k,v)]) k=some l.length:=by
 induction l with
 | nil=>simp[Zr]
 | cons p r ih =>
  obtain ⟨a,b⟩:=p
  simp only[Zr] at h
  split at h
  ·cases h
  ·rename_i hne
   have:=ih (by simpa using h)
   simp[Zr,hne,this]
theorem Ux {l:List MapEntry} (hn:l.Pairwise (fun x y=>x.born<y.born)) {j:Nat} {e0:MapEntry} (h:l[j]?=some e0):l.findIdx? (fun e=>((e.born:Nat):Int) == ((e0.born:Nat):Int))=some j:=by
 induction l generalizing j with
 | nil=>simp at h
 | cons a r ih =>
  rw[List.pairwise_cons] at hn
  cases j with
  | zero =>
   simp only[List.getElem?_cons_zero,Option.some.injEq] at h
   subst h
   simp[List.findIdx?_cons]
  | succ j =>
   simp only[List.getElem?_cons_succ] at h
   have hne:a.born≠e0.born:=fun e1=>by
    have:=hn.1 e0 (List.mem_of_getElem? h)
    omega
   have hb:(((a.born:Nat):Int) == ((e0.born:Nat):Int))=false:=by
    simp only[beq_eq_false_iff_ne,ne_eq,Int.natCast_inj]
    exact hne
   rw[List.findIdx?_cons,hb]
   simp[ih hn.2 h]
theorem Td (xs:Array MapEntry) (p:MapEntry→Bool):xs.findIdx? p=xs.toList.findIdx? p:=by
 cases xs
 simp
theorem Tm {α:Type} (f:α→α) (a:α):∀ l:List α,(l++[a]).modify l.length f=l++[f a]
 | []=>rfl
 | b :: r=>by simp[List.modify_succ_cons,Tm f a r]
theorem RO {α:Type}:∀ (l:List α) (j:Nat) (a:α),l[j]?=some a→l.set j a=l
 | [],_,_,h=>by simp at h
 | b :: r,0,a,h=>by simp at h;simp[h]
 | b :: r,j+1,a,h=>by simp at h;simp[RO r j a h]
theorem Z6.entry {P:Program} {mt kt et:TypeId} (h:Z6 ek ev w b l) (hk:WF (V:=V) P kt ek) (hm:P.underlying mt=some (.map kt et)) {z:Value} (hz:∀ w,(zeroValue et).run P w=.ok z w) (k:K) (v0:V) :
  ∃ (st:Nat) (es1:Array MapEntry) (c1:Nat),(∀ W,W.heap[b]?=w.heap[b]?→(Instr.mapEntry mt (.map (some b)) (ek k)).run P W=.ok (.tuple #[((Z3 l k).map ev).getD z,.int .i64 st]) (W.putObj b (.map es1 c1)))∧(∀ W,W.heap[b]?=w.heap[b]?→(Instr.lookup mt (.map (some b)) (ek k) false).run P W=.ok (((Z3 l k).map ev).getD z) W) ∧
   (∀ W,W.heap[b]?=some (.map es1 c1)→(Instr.lookup mt (.map (some b)) (ek k) false).run P W=.ok (((Z3 l k).map ev).getD z) W) ∧
   ∀ W v,W.heap[b]?=some (.map es1 c1)→∃ es2 c2,(Instr.entryStore mt (.map (some b)) (.int .i64 st) (ev v)).run P W=.ok () (W.putObj b (.map es2 c2))∧Z6 ek ev (W.putObj b (.map es2 c2)) b (Zw l k v):=by
 have hp:=fun v=>h.put k v
 have hlt:=h.lt
 obtain ⟨hn,es,clock,h1,h2,h3,h4,h5⟩:=id h
 have hf:=fun W=>hk.find k es.toList l W h2
 have hlook:=fun (W:World) (hW:W.heap[b]?=w.heap[b]?)=>(h.of_block (w':=W) hW).lookup hk hm hz k
 have hpw:∀ v,(es.push { key:=ek k,val:=v,born:=clock }).toList.Pairwise (fun x y=>x.born<y.born):=fun v=>by
  rw[Array.toList_push,List.pairwise_append]
  exact ⟨h4,List.pairwise_singleton _ _,fun x hx y hy=>by rw[List.mem_singleton.1 hy];exact h5 x hx⟩
 cases hi:Zr l k with
 | none =>
  have h0:=UW hi
  simp only[hi,Option.map_none] at hf
  have hsz:es.size=l.length:=by
   have:=congrArg List.length h2
   simpa using this
  refine ⟨clock,es.push { key:=ek k,val:=z,born:=clock },clock+1,fun W hW0=>?_,hlook,fun W hW=>?_,fun W v hW=>⟨es.push { key:=ek k,val:=ev v,born:=clock },clock+1,?_,?_⟩⟩
  ·have h1':=hW0.trans h1
   simp[Instr.mapEntry,run_underlying hm,ZA h1',hk.check,hf W,hz,h0,Result.andThen,MapKept.run_setObj_map _ h1',goInt]
   rfl
  ·have hf2:=hk.find k (es.push { key:=ek k,val:=z,born:=clock }).toList (l++[(k,v0)]) W (by simp[h2])
   rw[Z1d v0 hi,Option.map_some,←hsz] at hf2
   simp only[Array.getElem?_toList] at hf2
   rw[show (es.push ({ key:=ek k,val:=z,born:=clock }:MapEntry))[es.size]?=some { key:=ek k,val:=z,born:=clock } from by simp] at hf2
   rw[Array.toList_push] at hf2
   simp[Instr.lookup,run_underlying hm,ZA hW,hk.check,hf2,h0,Result.andThen]
  ·have hidx:(es.push ⟨ek k,z,clock⟩).findIdx? (fun e=>((e.born:Nat):Int) == ((clock:Nat):Int))=some es.size:=by
    rw[Td]
    exact Ux (hpw z) (j:=es.size) (e0:=⟨ek k,z,clock⟩) (by simp)
   have hmod:(es.push ⟨ek k,z,clock⟩).modify es.size (fun e=>{ e with val:=ev v })=es.push ⟨ek k,ev v,clock⟩:=by
    apply Array.ext'
    rw[Array.toList_modify,Array.toList_push,Array.toList_push,←Array.length_toList,Tm]
   simp[Instr.entryStore,MapKept.run_getObj_map hW,asInt,asIntOf,hidx,hmod,MapKept.run_setObj_map _ hW,Result.andThen]
   rfl
  ·have:=hp v
   rw[hi] at this
   refine this.of_block ((World.putObj_heap_same (Array.getElem?_eq_some_iff.1 hW).1).trans ?_)
   simp only[Zp,h1]
   rw[Array.getElem?_setIfInBounds_self_of_lt hlt]
 | some i =>
  obtain ⟨u,e1,e2⟩:=V1 hi
  obtain ⟨e0,he0⟩:∃ e,es.toList[i]?=some e:=by
   have:=congrArg (fun l:List Value=>l[i]?) h2
   simp only[List.getElem?_map,e1] at this
   cases hx:es.toList[i]? with
   | none=>rw[hx] at this;cases this
   | some e=>exact ⟨e,rfl⟩
  have hkey:e0.key=ek k:=by
   have:=congrArg (fun l:List Value=>l[i]?) h2
   simpa [e1,he0] using this
  have hval:e0.val=ev u:=by
   have:=congrArg (fun l:List Value=>l[i]?) h3
   simpa [e1,he0] using this
  have hj:es[i]?=some e0:=by simpa using he0
  have hsame:es.modify i (fun e=>{ e with key:=ek k })=es:=by
   apply Array.ext'
   rw[Array.toList_modify,ChangeMaps.modify_eq_set _ _ _ _ he0]
   have:({ e0 with key:=ek k }:MapEntry)=e0:=by rw[←hkey]
   rw[this]
   exact RO _ _ _ he0
  simp only[hi,Option.map_some,Array.getElem?_toList,hj,Option.getD_some] at hf
  refine ⟨e0.born,es,clock,fun W hW0=>?_,hlook,fun W hW=>?_,fun W v hW=>⟨es.modify i (fun e'=>{ e' with key:=ek k,val:=ev v }),clock,?_,?_⟩⟩
  ·have h1':=hW0.trans h1
   simp[Instr.mapEntry,run_underlying hm,ZA h1',hk.check,hf W,hj,hkey,hk.stays,hsame,e2,hval,Result.andThen,MapKept.run_setObj_map _ h1',goInt]
   rfl
  ·have hf2:=hk.find k es.toList l W h2
   rw[hi,Option.map_some] at hf2
   simp only[Array.getElem?_toList,hj,Option.map_some,Option.getD_some] at hf2
   simp[Instr.lookup,run_underlying hm,ZA hW,hk.check,hf2,e2,hval,Result.andThen]
  ·have hidx:es.findIdx? (fun e=>((e.born:Nat):Int) == ((e0.born:Nat):Int))=some i:=by
    rw[Td]
    exact Ux h4 he0
   have hmod:es.modify i (fun e=>{ e with val:=ev v })=es.modify i (fun e'=>{ e' with key:=ek k,val:=ev v }):=by
    apply Array.ext'
    rw[Array.toList_modify,Array.toList_modify,ChangeMaps.modify_eq_set _ _ _ _ he0,ChangeMaps.modify_eq_set _ _ _ _ he0,←hkey]
   simp[Instr.entryStore,MapKept.run_getObj_map hW,asInt,asIntOf,hidx,hmod,MapKept.run_setObj_map _ hW,Result.andThen]
   rfl
  ·have:=hp v
   rw[hi] at this
   refine this.of_block ((World.putObj_heap_same (Array.getElem?_eq_some_iff.1 hW).1).trans ?_)
   simp only[Zp,h1]
   rw[Array.getElem?_setIfInBounds_self_of_lt hlt]
theorem Z15 (w:World) {b:Nat} (hb:b<w.heap.size) (o x:Obj):(w.putObj b o).alloc x=(w.alloc x).putObj b o:=by
 have e:(w.heap.setIfInBounds b o).push x=(w.heap.push x).setIfInBounds b o:=by
  apply Array.ext_getElem?
  intro i
  simp only[Array.getElem?_push,Array.getElem?_setIfInBounds,Array.size_setIfInBounds,Array.size_push]
  by_cases h1:i=w.heap.size
  ·subst h1
   rw[if_pos rfl,if_neg (by omega),if_pos rfl]
  ·by_cases h2:b=i
   ·subst h2
    rw[if_neg h1,if_pos rfl,if_pos hb,if_pos rfl,if_pos (by omega)]
   ·rw[if_neg h1,if_neg h2,if_neg h2,if_neg h1]
 show ({ w with heap:=(w.heap.setIfInBounds b o).push x }:World)={ w with heap:=(w.heap.push x).setIfInBounds b o }
 rw[e]
end
theorem Ur {l:List El} (hl:l.length≤1000) (a:St) (aft:Bool):-1≤Y7 l a aft∧Y7 l a aft≤2002:=by
 unfold Y7
 cases hp:ZP l a with
 | none=>simp
 | some i =>
  have:=Um hp
  cases aft <;> simp <;> omega
def VU (l:List El) (o:OpD) (i:Int):Bool:=decide (0≤Y7 l o.fr o.fa∧0≤Y7 l o.tr o.ta∧Y7 l o.fr o.fa<2*i+1∧2*i+1<Y7 l o.tr o.ta)
theorem Rq (l:List El) (o:OpD) (i:Int):VU l o i=true↔Cov l o i:=by
 unfold VU Cov Y7
 rw[decide_eq_true_eq]
 cases hp:ZP l o.fr with
 | none=>simp
 | some p =>
  cases hq:ZP l o.tr with
  | none=>simp
  | some q =>
   simp only[Option.some.injEq,exists_and_left,exists_eq_left']
   cases o.fa <;> cases o.ta <;> simp <;> omega
theorem QS (va:Option Addr) (ca:Nat) (l:List El) (o:OpD) (i:Int) (w:World) (hl:Z5 El.cells 4 w (.slice va l.length ca) l) (hln:l.length≤1000) (hi0:0≤i) (hi1:i≤1000) :
  Calls Tryz.prog 132 #[.slice va l.length ca,.agg (OpD.cells o).toArray,.int .i64 i] w fun e w'=>e=.returned (.bool (VU l o i))∧Below w.heap.size w w':=by
 have hB0:Below w.heap.size w (w.alloc (.cells (OpD.cells o).toArray 181)):=(Below.refl _ _).alloc (Nat.le_refl _) _
 have hl0:=hl.below hB0
 have q20:(w.alloc (.cells (OpD.cells o).toArray 181)).cell? ⟨w.heap.size,20,none⟩=some (.int .i64 o.fr.n):=ZG 20 _ rfl
 have q21:(w.alloc (.cells (OpD.cells o).toArray 181)).cell? ⟨w.heap.size,21,none⟩=some (.int .i64 o.fr.r):=ZG 21 _ rfl
 have q22:(w.alloc (.cells (OpD.cells o).toArray 181)).cell? ⟨w.heap.size,22,none⟩=some (.bool o.fa):=ZG 22 _ rfl
 have q23:(w.alloc (.cells (OpD.cells o).toArray 181)).cell? ⟨w.heap.size,23,none⟩=some (.int .i64 o.tr.n):=ZG 23 _ rfl
 have q24:(w.alloc (.cells (OpD.cells o).toArray 181)).cell? ⟨w.heap.size,24,none⟩=some (.int .i64 o.tr.r):=ZG 24 _ rfl
 have q25:(w.alloc (.cells (OpD.cells o).toArray 181)).cell? ⟨w.heap.size,25,none⟩=some (.bool o.ta):=ZG 25 _ rfl
 obtain ⟨W0,hW0⟩:=Je (w.alloc (.cells (OpD.cells o).toArray 181))
 have HW0:=Lib.hid hW0
 rw[hW0] at hB0 hl0 q20 q21 q22 q23 q24 q25
 clear hW0 hl
 go_enter Tryz.func132,Tryz.ntmps132
 go_upto_region 1 with fail
 rw[HW0.out]
 go_wp2_with fail
 refine (TS va ca l o.fr o.fa W0 hl0 hln).mono ?_
 rintro e w1 ⟨rfl,hb1⟩
 replace q23:=Z0 hb1 q23
 replace q24:=Z0 hb1 q24
 replace q25:=Z0 hb1 q25
 have hl1:=hl0.below hb1
 have hB1:=hB0.trans (hb1.mono hB0.size)
 clear hb1 hB0 hl0 q20 q21 q22
 go_wp2_with fail
 refine (TS va ca l o.tr o.ta w1 hl1 hln).mono ?_
 rintro e w2 ⟨rfl,hb2⟩
 have HB:=Jh (hB1.trans (hb2.mono hB1.size))
 clear hB1 hb2 hl1 q23 q24 q25
 obtain ⟨s0,s1⟩:=Ur hln o.fr o.fa
 obtain ⟨t0,t1⟩:=Ur hln o.tr o.ta
 have hcv:VU l o i=decide (0≤Y7 l o.fr o.fa∧0≤Y7 l o.tr o.ta∧Y7 l o.fr o.fa<2*i+1∧2*i+1<Y7 l o.tr o.ta):=rfl
 generalize Y7 l o.fr o.fa=s at *
 generalize Y7 l o.tr o.ta=t at *
 have HCV:=Lib.hid hcv
 clear hcv
 by_cases h1:0≤s
 ·by_cases h2:0≤t
  ·by_cases h3:s<2*i+1
   ·by_cases h4:2*i+1<t
    ·have HR:Hid (VU l o i=true):=Jh (HCV.out.trans <| decide_eq_true ⟨h1,h2,h3,h4⟩)
     go_wp2_with fail
     go_ret
     exact ⟨by rw[HR.out];rfl,HB.out⟩
    ·have HR:Hid (VU l o i=decide (2*i+1<t)):=Jh (HCV.out.trans (decide_eq_decide.2 ⟨fun h=>h.2.2.2,fun h=>⟨h1,h2,h3,h⟩⟩))
     go_wp2_with fail
     go_ret
     exact ⟨by rw[HR.out];rfl,HB.out⟩
   ·have HR:Hid (VU l o i=false):=Jh (HCV.out.trans <| decide_eq_false (by omega))
    go_wp2_with fail
    go_ret
    exact ⟨by rw[HR.out];rfl,HB.out⟩
  ·have HR:Hid (VU l o i=false):=Jh (HCV.out.trans <| decide_eq_false (by omega))
   go_wp2_with fail
   go_ret
   exact ⟨by rw[HR.out];rfl,HB.out⟩
 ·have HR:Hid (VU l o i=false):=Jh (HCV.out.trans <| decide_eq_false (by omega))
  go_wp2_with fail
  go_ret
  exact ⟨by rw[HR.out];rfl,HB.out⟩
def XH (l:List El) (ms:List OpD) (i:Int) (n:ByteArray) (k:Nat) (c:Int):Prop :=
 (c=-1∧∀ j o',j<k→ms[j]?=some o'→¬ (Cov l o' i∧o'.name=n)) ∨
 ∃ (b:Nat) (o:OpD),c=(b:Int)∧b<k∧ms[b]?=some o∧Cov l o i∧o.name=n∧∀ j o',j<k→ms[j]?=some o'→Cov l o' i→o'.name=n→ZK o'.id o.id∨(o'.id=o.id∧b≤j)
theorem XH.zero (l:List El) (ms:List OpD) (i:Int) (n:ByteArray):XH l ms i n 0 (-1):=.inl ⟨rfl,fun j _ h=>absurd h (by omega)⟩
theorem XH.skip {l:List El} {ms:List OpD} {i:Int} {n:ByteArray} {k:Nat} {c:Int} {x:OpD} (h:XH l ms i n k c) (hx:ms[k]?=some x) (hn:¬ (Cov l x i∧x.name=n)):XH l ms i n (k+1) c:=by
 rcases h with ⟨h1,h2⟩|⟨b,o,h1,h2,h3,h4,h5,h6⟩
 ·refine .inl ⟨h1,fun j o' hj ho=>?_⟩
  by_cases hjk:j<k
  ·exact h2 j o' hjk ho
  ·obtain rfl:j=k:=by omega
   rw[hx] at ho;cases ho;exact hn
 ·refine .inr ⟨b,o,h1,by omega,h3,h4,h5,fun j o' hj ho hc hm=>?_⟩
  by_cases hjk:j<k
  ·exact h6 j o' hjk ho hc hm
  ·obtain rfl:j=k:=by omega
   rw[hx] at ho;cases ho;exact absurd ⟨hc,hm⟩ hn
theorem XH.first {l:List El} {ms:List OpD} {i:Int} {n:ByteArray} {k:Nat} {x:OpD} (h:XH l ms i n k (-1)) (hx:ms[k]?=some x) (hc:Cov l x i) (hn:x.name=n):XH l ms i n (k+1) k:=by
 rcases h with ⟨_,h2⟩|⟨b,o,h1,_⟩
 ·refine .inr ⟨k,x,rfl,by omega,hx,hc,hn,fun j o' hj ho hc' hm=>?_⟩
  by_cases hjk:j<k
  ·exact absurd ⟨hc',hm⟩ (h2 j o' hjk ho)
  ·obtain rfl:j=k:=by omega
   rw[hx] at ho;cases ho;exact .inr ⟨rfl,Nat.le_refl _⟩
 ·omega
theorem XH.more {l:List El} {ms:List OpD} {i:Int} {n:ByteArray} {k b:Nat} {x o:OpD} (h:XH l ms i n k b) (ho:ms[b]?=some o) (hx:ms[k]?=some x) (hc:Cov l x i) (hn:x.name=n) (hlt:ZK o.id x.id):XH l ms i n (k+1) k:=by
 rcases h with ⟨h1,_⟩|⟨b',o',h1,h2,h3,h4,h5,h6⟩
 ·omega
 ·obtain rfl:b=b':=by omega
  rw[ho] at h3;cases h3
  refine .inr ⟨k,x,rfl,by omega,hx,hc,hn,fun j o' hj ho' hc' hm=>?_⟩
  by_cases hjk:j<k
  ·rcases h6 j o' hjk ho' hc' hm with t|⟨t,_⟩
   ·exact .inl (ZC t hlt)
   ·rw[t];exact .inl hlt
  ·obtain rfl:j=k:=by omega
   rw[hx] at ho';cases ho';exact .inr ⟨rfl,Nat.le_refl _⟩
theorem XH.less {l:List El} {ms:List OpD} {i:Int} {n:ByteArray} {k b:Nat} {x o:OpD} (h:XH l ms i n k b) (ho:ms[b]?=some o) (hx:ms[k]?=some x) (hlt:¬ ZK o.id x.id):XH l ms i n (k+1) b:=by
 rcases h with ⟨h1,_⟩|⟨b',o',h1,h2,h3,h4,h5,h6⟩
 ·omega
 ·obtain rfl:b=b':=by omega
  rw[ho] at h3;cases h3
  refine .inr ⟨b,o,rfl,by omega,ho,h4,h5,fun j o' hj ho' hc' hm=>?_⟩
  by_cases hjk:j<k
  ·exact h6 j o' hjk ho' hc' hm
  ·obtain rfl:j=k:=by omega
   rw[hx] at ho';cases ho'
   rcases Y8 x.id o.id with t|t|t
   ·exact .inl t
   ·exact .inr ⟨t,by omega⟩
   ·exact absurd t hlt
def Rg (l:List El) (ms:List OpD) (i:Int) (n:ByteArray) (c:Int):Prop:=(c=-1∧∀ k o,¬ Win l ms i n k o)∨∃ (k:Nat) (o:OpD),c=(k:Int)∧Win l ms i n k o
theorem XH.cnt {l:List El} {ms:List OpD} {i:Int} {n:ByteArray} {c:Int} (h:XH l ms i n ms.length c):Rg l ms i n c:=by
 rcases h with ⟨h1,h2⟩|⟨b,o,h1,h2,h3,h4,h5,h6⟩
 ·exact .inl ⟨h1,fun k o hw=>h2 k o (List.getElem?_eq_some_iff.1 hw.1).1 hw.1 ⟨hw.2.1,hw.2.2.1⟩⟩
 ·exact .inr ⟨b,o,h1,h3,h4,h5,fun j o' hj=>h6 j o' (List.getElem?_eq_some_iff.1 hj).1 hj⟩
theorem Rg.eq_iff {l:List El} {ms:List OpD} {i:Int} {n:ByteArray} {c:Int} (h:Rg l ms i n c) {k:Nat} {o:OpD} (ho:ms[k]?=some o):c=(k:Int)↔Win l ms i n k o:=by
 rcases h with ⟨h1,h2⟩|⟨k',o',h1,h2⟩
 ·exact ⟨fun e=>by omega,fun hw=>absurd hw (h2 k o)⟩
 ·constructor
  ·intro e
   obtain rfl:k=k':=by omega
   have:=h2.1
   rw[ho] at this
   cases this
   exact h2
  ·intro hw
   rw[(hw.unique h2).1]
   exact h1
theorem Z3G:XW Tryz.prog 181 26:=⟨fun w=>by kernel_rfl,fun w=>by kernel_rfl⟩
theorem Z09 (va vb:Option Addr) (ca cb:Nat) (l:List El) (ms:List OpD) (i:Int) (n:ByteArray) (w:World) (hl:Z5 El.cells 4 w (.slice va l.length ca) l) (hm:Z5 OpD.cells 26 w (.slice vb ms.length cb) ms) (hln:l.length≤1000) (hmn:ms.length≤1000) (hi0:0≤i) (hi1:i≤1000) :
  Calls Tryz.prog 107 #[.slice va l.length ca,.slice vb ms.length cb,.int .i64 i,.string n] w fun e w'=>∃ c,e=.returned (.int .i64 c)∧Hid (Rg l ms i n c)∧Below w.heap.size w w':=by
 obtain ⟨_,_,e0,hcap,hmax,hcs⟩:=id hm
 cases e0
 have HC:=Lib.hid hcs
 have HL:=Lib.hid hl
 clear hcs hm hl
 go_enter Tryz.func107,Tryz.ntmps107
 go_wp2_with fail
 go_loopg [9,10] ms.length (fun g av iv wr=>∃ (k:Nat) (c:Int),g=ms.length - k∧k≤ms.length∧av=.int .i64 c∧iv=.int .i64 k∧Hid (XH l ms i n k c)∧Below w.heap.size w wr)
 case atStart=>exact ⟨0,-1,by omega,by omega,rfl,rfl,Jh (XH.zero l ms i n),Below.refl _ _⟩
 case round =>
  obtain ⟨k,c,hg,hk,rfl,rfl,hBe,hB⟩:=hrel
  have HB:=Lib.hid hB
  have HG:=Lib.hid hg
  by_cases hkl:k<ms.length
  ·obtain ⟨x,hx⟩:∃ x,ms[k]?=some x:=⟨_,List.getElem?_eq_getElem hkl⟩
   obtain ⟨b,o,rfl,hcc⟩:=HC.out (by intro e;rw[e] at hx;simp at hx)
   have hcell:∀ {q:Nat} {y:OpD},ms[q]?=some y→∀ j u,(OpD.cells y)[j]?=some u→wr.cell? ⟨b,o+q*26+j,none⟩=some u:=fun {q y} hy j u h=>by
    have h1:=hcc q y hy j u h
    exact (World.cell?_of_block (w:=w) (hB.block b (Zj h1))).trans h1
   have HLD:=Jh (V9 (P:=Tryz.prog) Z3G (OpD.len x) (hcell hx))
   have hkk:(k:Int)<(ms.length:Int):=by omega
   have hlr:=HL.out.of (fun b o u h=>(World.cell?_of_block (w:=w) (hB.block b (Zj h))).trans h)
   have HCC:=Jh (fun (q:Nat) (y:OpD)=>@hcell q y)
   have HX:=Lib.hid hx
   clear hcc hcell hB hg
   go_wp2_with ((with_reducible_and_instances refine XK (o:=⟨some 22,_,_,_,_,_⟩) (x:=.tmp 21) ?_ ?_ ?_ HLD.out ?_);rfl;rfl;rfl)
   refine (QS va ca l x i wr hlr hln hi0 hi1).mono ?_
   rintro e w1 ⟨rfl,hb1⟩
   have hB1:=HB.out.trans (hb1.mono HB.out.size)
   have HB1:=Lib.hid hB1
   have hcell1:∀ {q:Nat} {y:OpD},ms[q]?=some y→∀ j u,(OpD.cells y)[j]?=some u→w1.cell? ⟨b,o+q*26+j,none⟩=some u:=fun {q y} hy j u h=>Z0 hb1 (HCC.out q y hy j u h)
   have x0:w1.cell? ⟨b,o+k*26,none⟩=some (.int .i64 x.id.n):=hcell1 hx 0 _ rfl
   have x1:w1.cell? ⟨b,o+k*26+1,none⟩=some (.int .i64 x.id.r):=hcell1 hx 1 _ rfl
   have x18:w1.cell? ⟨b,o+k*26+18,none⟩=some (.string x.name):=hcell1 hx 18 _ rfl
   have HC1:=Jh (fun (q:Nat) (y:OpD)=>@hcell1 q y)
   clear hcell1 hb1 hB1 hlr HCC HLD hx
   cases hcov:VU l x i with
   | false =>
    have HN:Hid (¬ (Cov l x i∧x.name=n)):=Jh (fun h=>by rw[(Rq l x i).2 h.1] at hcov;cases hcov)
    clear hcov
    go_upto_region 6 with fail
    go_quiet (fail)
    go_wp2_with fail
    go_roundg (ms.length - (k+1))
    case measure=>rw[HG.out];omega
    case rel=>exact ⟨k+1,c,rfl,by omega,rfl,by simp,Jh (hBe.out.skip HX.out HN.out),below_drewN HB1.out _⟩
   | true =>
    have hcv:=(Rq l x i).1 hcov
    clear hcov
    by_cases hn:x.name=n
    ·rw[hn] at x18
     have HN:=Lib.hid hn
     have HCV:=Lib.hid hcv
     clear hn hcv
     by_cases hc0:c<0
     ·have hc1:c=-1:=by
       rcases hBe.out with ⟨h,_⟩|⟨q,_,h,_⟩
       ·exact h
       ·omega
      subst hc1
      clear hc0
      go_upto_region 6 with fail
      go_quiet (fail)
      go_wp2_with fail
      go_roundg (ms.length - (k+1))
      case measure=>rw[HG.out];omega
      case rel=>exact ⟨k+1,k,rfl,by omega,rfl,by simp,Jh (hBe.out.first HX.out HCV.out HN.out),below_drewN HB1.out _⟩
     ·obtain ⟨q,y,rfl,hqk,hy⟩:∃ (q:Nat) (y:OpD),c=(q:Int)∧q<k∧ms[q]?=some y:=by
       rcases hBe.out with ⟨h,_⟩|⟨q,y,h1,h2,h3,_⟩
       ·omega
       ·exact ⟨q,y,h1,h2,h3⟩
      have y0:w1.cell? ⟨b,o+q*26,none⟩=some (.int .i64 y.id.n):=HC1.out q y hy 0 _ rfl
      have y1:w1.cell? ⟨b,o+q*26+1,none⟩=some (.int .i64 y.id.r):=HC1.out q y hy 1 _ rfl
      have hqq:(q:Int)<(ms.length:Int):=by omega
      have HY:=Lib.hid hy
      clear hy
      go_upto_region 6 with fail
      by_cases hgt:0<Yd ⟨x.id.n,x.id.r⟩ ⟨y.id.n,y.id.r⟩
      ·have HLT:Hid (ZK y.id x.id):=Jh ((T4 x.id y.id).1 hgt)
       go_region_held3 (fun W=>W.cell? ⟨b,o+k*26,none⟩=some (.int .i64 x.id.n)∧W.cell? ⟨b,o+k*26+1,none⟩=some (.int .i64 x.id.r)∧W.cell? ⟨b,o+k*26+18,none⟩=some (.string n)∧W.cell? ⟨b,o+q*26,none⟩=some (.int .i64 y.id.n)∧W.cell? ⟨b,o+q*26+1,none⟩=some (.int .i64 y.id.r)) (first|exact ⟨x0,x1,x18,y0,y1⟩|exact ⟨Z0 b5 x0,Z0 b5 x1,Z0 b5 x18,Z0 b5 y0,Z0 b5 y1⟩) ((go_at_call 23;((with_reducible refine (X4 _ _ _ _ _).mono ?_);rintro e w5 ⟨rfl,b5⟩;simp only[Y4,ZU] at b5)))
       all_goals
        go_wp2_with fail
        go_roundg (ms.length - (k+1))
        case measure=>rw[HG.out];omega
        case rel=>exact ⟨k+1,k,rfl,by omega,rfl,by simp,Jh (hBe.out.more HY.out HX.out HCV.out HN.out HLT.out),by first|exact HB1.out.trans (b5.mono HB1.out.size)|exact (HB1.out.trans (b5.mono HB1.out.size)).drew⟩
      ·have HLT:Hid (¬ ZK y.id x.id):=Jh (fun h=>hgt ((T4 x.id y.id).2 h))
       go_region_held3 (fun W=>W.cell? ⟨b,o+k*26,none⟩=some (.int .i64 x.id.n)∧W.cell? ⟨b,o+k*26+1,none⟩=some (.int .i64 x.id.r)∧W.cell? ⟨b,o+k*26+18,none⟩=some (.string n)∧W.cell? ⟨b,o+q*26,none⟩=some (.int .i64 y.id.n)∧W.cell? ⟨b,o+q*26+1,none⟩=some (.int .i64 y.id.r)) (first|exact ⟨x0,x1,x18,y0,y1⟩|exact ⟨Z0 b5 x0,Z0 b5 x1,Z0 b5 x18,Z0 b5 y0,Z0 b5 y1⟩) ((go_at_call 23;((with_reducible refine (X4 _ _ _ _ _).mono ?_);rintro e w5 ⟨rfl,b5⟩;simp only[Y4,ZU] at b5)))
       all_goals
        go_wp2_with fail
        go_roundg (ms.length - (k+1))
        case measure=>rw[HG.out];omega
        case rel=>exact ⟨k+1,q,rfl,by omega,rfl,by simp,Jh (hBe.out.less HY.out HX.out HLT.out),by first|exact HB1.out.trans (b5.mono HB1.out.size)|exact (HB1.out.trans (b5.mono HB1.out.size)).drew⟩
    ·have hn1:(x.name.toList == n.toList)=false:=by
      cases h:(x.name.toList == n.toList) with
      | false=>rfl
      | true=>exact absurd ((ZO _ _).1 (eq_of_beq h)) hn
     have hn2:(x.name == n)=false:=by rw[Xe];simp[hn]
     have HN:Hid (¬ (Cov l x i∧x.name=n)):=Jh (fun h=>hn h.2)
     clear hn hcv
     go_upto_region 6 with fail
     go_quiet (fail)
     go_wp2_with fail
     go_roundg (ms.length - (k+1))
     case measure=>rw[HG.out];omega
     case rel=>exact ⟨k+1,c,rfl,by omega,rfl,by simp,Jh (hBe.out.skip HX.out HN.out),below_drewN HB1.out _⟩
  ·obtain rfl:k=ms.length:=by omega
   clear hB hg
   go_wp2_with fail
   go_ret
   exact ⟨c,rfl,Lib.hid hBe.out.cnt,HB.out⟩
structure XJ (l:List El) (ms:List OpD) (i:Int) (k:Nat) (O:List Atr):Prop where
 rising:O.Pairwise (fun x y=>x.name.toList<y.name.toList)
 mem:∀ a,a∈O↔a.value≠⟨#[]⟩∧∃ q o,q<k∧Win l ms i a.name q o∧a.value=o.value
theorem XJ.zero (l:List El) (ms:List OpD) (i:Int):XJ l ms i 0 []:=⟨List.Pairwise.nil,fun a=>by simp⟩
theorem XJ.skip {l:List El} {ms:List OpD} {i:Int} {k:Nat} {O:List Atr} {x:OpD} (h:XJ l ms i k O) (hx:ms[k]?=some x) (hn:¬ (Win l ms i x.name k x∧x.value≠⟨#[]⟩)):XJ l ms i (k+1) O:=by
 refine ⟨h.rising,fun a=>?_⟩
 rw[h.mem a]
 constructor
 ·rintro ⟨hv,q,o,hq,r⟩;exact ⟨hv,q,o,by omega,r⟩
 ·rintro ⟨hv,q,o,hq,hw,e⟩
  by_cases hqk:q<k
  ·exact ⟨hv,q,o,hqk,hw,e⟩
  ·obtain rfl:q=k:=by omega
   have h1:=hw.1
   rw[hx] at h1
   cases h1
   have h2:=hw.2.2.1
   exact absurd ⟨by rw[h2];exact hw,by rw[←e];exact hv⟩ hn
theorem XJ.fresh {l:List El} {ms:List OpD} {i:Int} {k:Nat} {O:List Atr} {x:OpD} (h:XJ l ms i k O) (hw:Win l ms i x.name k x):∀ a∈O,a.name.toList≠x.name.toList:=by
 intro a ha e
 obtain ⟨_,q,o,hq,hw',_⟩:=(h.mem a).1 ha
 rw[(ZO _ _).1 e] at hw'
 have:=(hw.unique hw').1
 omega
theorem XJ.ins {l:List El} {ms:List OpD} {i:Int} {k:Nat} {O:List Atr} {x:OpD} (h:XJ l ms i k O) (hw:Win l ms i x.name k x) (hv:x.value≠⟨#[]⟩) {j:Nat} (hj:j≤O.length)
  (hd:∀ y∈O.drop j,x.name.toList<y.name.toList) (ht:∀ y∈O.take j,y.name.toList<x.name.toList):XJ l ms i (k+1) (Ya O ⟨x.name,x.value⟩ j):=by
 refine ⟨Uy hj h.rising hd ht,fun a=>?_⟩
 rw[SC,h.mem a]
 constructor
 ·rintro (rfl|⟨hv',q,o,hq,r⟩)
  ·exact ⟨hv,k,x,by omega,hw,rfl⟩
  ·exact ⟨hv',q,o,by omega,r⟩
 ·rintro ⟨hv',q,o,hq,hw',e⟩
  by_cases hqk:q<k
  ·exact .inr ⟨hv',q,o,hqk,hw',e⟩
  ·obtain rfl:q=k:=by omega
   left
   have h1:=hw'.1
   rw[hw.1] at h1
   cases h1
   obtain ⟨an,av⟩:=a
   have h2:=hw'.2.2.1
   simp only at h2 e
   rw[e,h2]
theorem XJ.hasL {l:List El} {ms:List OpD} {i:Int} {O:List Atr} (h:XJ l ms i ms.length O):Ul l ms i O:=by
 refine ⟨h.rising,fun a=>?_⟩
 rw[h.mem a]
 constructor
 ·rintro ⟨hv,q,o,_,hw,e⟩;exact ⟨hv,q,o,hw,e⟩
 ·rintro ⟨hv,q,o,hw,e⟩;exact ⟨hv,q,o,(List.getElem?_eq_some_iff.1 hw.1).1,hw,e⟩
theorem Z2P (va vb:Option Addr) (ca cb:Nat) (l:List El) (ms:List OpD) (i:Int) (w:World) (hl:Z5 El.cells 4 w (.slice va l.length ca) l) (hm:Z5 OpD.cells 26 w (.slice vb ms.length cb) ms) (hln:l.length≤1000) (hmn:ms.length≤1000) (hi0:0≤i) (hi1:i≤1000) :
  Calls Tryz.prog 83 #[.slice va l.length ca,.slice vb ms.length cb,.int .i64 i] w fun e w'=>∃ u O,e=.returned u∧Own Atr.cells 2 73 w.heap.size w' u O∧Hid (Ul l ms i O)∧Below w.heap.size w w':=by
 obtain ⟨i0,hi,hz0,hz1',hz2⟩:=info_parts W5
 obtain ⟨_,_,e0,hcap,hmax,hcs⟩:=id hm
 cases e0
 have HC:=Lib.hid hcs
 have HL:=Lib.hid hl
 have HM:=Lib.hid hm
 clear hcs hm hl
 go_enter Tryz.func83,Tryz.ntmps83
 go_wp2_with fail
 go_loopg [7,8] ms.length (fun g s iv wx=>∃ (k:Nat) (O:List Atr),g=ms.length - k∧k≤ms.length∧iv=.int .i64 k∧O.length≤k∧Hid (XJ l ms i k O)∧Own Atr.cells 2 73 w.heap.size wx s O∧Below w.heap.size w wx)
 case atStart=>exact ⟨0,[],by omega,by omega,rfl,Nat.le_refl _,Jh (XJ.zero l ms i),Own.nil,Below.refl _ _⟩
 case round =>
  obtain ⟨k,O,hg,hk,rfl,hol,hgath,hown,hB⟩:=hrel
  have HB:=Lib.hid hB
  have HG:=Lib.hid hg
  by_cases hlt:k<ms.length
  ·obtain ⟨x,hx⟩:∃ x,ms[k]?=some x:=⟨_,List.getElem?_eq_getElem hlt⟩
   obtain ⟨b,o,rfl,hcc⟩:=HC.out (by intro e;rw[e] at hx;simp at hx)
   have hkp:∀ {b o u},w.cell? ⟨b,o,none⟩=some u→wr.cell? ⟨b,o,none⟩=some u:=fun h=>(World.cell?_of_block (w:=w) (hB.block _ (Zj h))).trans h
   have x18:wr.cell? ⟨b,o+k*26+18,none⟩=some (.string x.name):=hkp (hcc k x hx 18 _ rfl)
   have x19:wr.cell? ⟨b,o+k*26+19,none⟩=some (.string x.value):=hkp (hcc k x hx 19 _ rfl)
   have hlr:=HL.out.of (fun b o u h=>hkp h)
   have hmr:=HM.out.of (fun b o u h=>hkp h)
   have hkk:(k:Int)<(ms.length:Int):=by omega
   have HX:=Lib.hid hx
   clear hcc hB hg hx hkp
   go_wp2_with fail
   refine (Z09 va (some ⟨b,o,none⟩) ca cb l ms i x.name wr hlr hmr hln hmn hi0 hi1).mono ?_
   rintro e w1 ⟨c,rfl,hcnt,hb1⟩
   have y18:=Z0 hb1 x18
   have y19:=Z0 hb1 x19
   have hown1:=hown.ext (Ext.of_below (S:=fun _=>False) hb1) (fun _ _ h=>h)
   have hB1:=HB.out.trans (hb1.mono HB.out.size)
   have hcw:=hcnt.out.eq_iff HX.out
   have HCW:=Lib.hid hcw
   clear x18 x19 hown hb1 hlr hmr hcnt hcw
   by_cases hck:c=(k:Int)
   ·subst hck
    have HW:Hid (Win l ms i x.name k x):=Jh (HCW.out.1 rfl)
    by_cases hv:x.value=⟨#[]⟩
    ·have HN:Hid (¬ (Win l ms i x.name k x∧x.value≠⟨#[]⟩)):=Jh (fun h=>h.2 hv)
     rw[hv] at y19
     clear hv
     go_wp2_with fail
     go_roundg (ms.length - (k+1))
     case measure=>rw[HG.out];omega
     case rel=>exact ⟨k+1,O,rfl,by omega,by simp,by omega,Jh (hgath.out.skip HX.out HN.out),hown1,hB1⟩
    ·have hv1:(x.value.toList == [])=false:=by
      cases h:(x.value.toList == []) with
      | false=>rfl
      | true=>exact absurd ((ZO x.value ⟨#[]⟩).1 (by simpa using eq_of_beq h)) hv
     have hv2:(x.value == ⟨#[]⟩)=false:=by rw[Xe];simp[hv]
     have HV:=Lib.hid hv
     have HLN:=Jh (hgath.out.fresh HW.out)
     clear hv
     obtain ⟨oa,oc,rfl,hocap,homax,hocs⟩:=hown1.slice (fun _=>rfl)
     clear hocs
     go_upto_region 6 with fail
     unfold maxLen at homax
     have hown5:=hown1.alloc (.cells #[.string x.name,.string x.value] 73)
     have hB5:=hB1.alloc hB1.size (.cells #[.string x.name,.string x.value] 73)
     have hnb:∀ j u,(Atr.cells ⟨x.name,x.value⟩)[j]?=some u→(w1.alloc (.cells #[.string x.name,.string x.value] 73)).cell? ⟨w1.heap.size,j,none⟩=some u:=fun j u h=>ZG j u h
     have HOW:=Lib.hid hown5
     have HNB:=Lib.hid hnb
     have hs5:=hB5.size
     have hbl:b<w1.heap.size:=Zj y18
     clear hnb
     go_region_law (refine V5 (v:=.slice oa O.length oc) (l:=O) rfl (.tmp 36) (.tmp 48) 24 rfl i0 (.agg #[.string ⟨#[]⟩,.string ⟨#[]⟩]) 32 Tryz.underlying24 hi hz0 hz1' hz2 rfl (by omega) (fun _=>rfl) (fun x u hu=>by simp[Atr.cells] at hu;rcases hu with rfl|rfl <;> rfl) rfl HOW.out ⟨x.name,x.value⟩ w1.heap.size 1 rfl HNB.out (by unfold maxLen;omega) (by omega) hs5 ?_;intro v' w6 hown6 hx6)
     all_goals
      have hne:∀ b,(Value.slice oa O.length oc).ownBlock=some b→w.heap.size≤b:=fun b hb=>(hown5.blk b hb).1
      have hB6:Below w.heap.size w w6:=by
       refine Ext.new ?_ hx6 (fun b hb _ e=>by have:=hne _ e;omega) hs5
       first|exact hB5|exact hB5.drew
      obtain ⟨g6,cp6,rfl,hg6⟩:∃ g c,v'=.slice (some ⟨g,0,none⟩) (O.length+1) c∧w.heap.size≤g:=by
       rcases hown6.eq_slice with ⟨_,h⟩|⟨g,c,h,h2,_⟩
       ·simp at h
       ·exact ⟨g,c,by simpa using h,h2⟩
      clear HOW HNB hs5 hbl hown1 hB1 y18 y19
      clear hx6 hown5 hB5 hne HC
      have hins:O++[⟨x.name,x.value⟩]=Ya O ⟨x.name,x.value⟩ O.length:=by simp[Ya]
      rw[hins] at hown6
      clear hins
      go_wp2_with fail
      go_loopg [9] O.length (fun g kk wz=>∃ j:Nat,g=j∧j≤O.length∧kk=.int .i64 j∧Hid (∀ y∈O.drop j,x.name.toList<y.name.toList)∧Own Atr.cells 2 73 w.heap.size wz (.slice (some ⟨g6,0,none⟩) (O.length+1) cp6) (Ya O ⟨x.name,x.value⟩ j)∧Below w.heap.size w wz)
      case atStart=>exact ⟨O.length,rfl,Nat.le_refl _,by go_num,fun y hy=>by simp at hy,hown6,hB6⟩
      case round =>
       obtain ⟨j,hjg,hj,rfl,hdrop,hown7,hB7⟩:=hrel
       have HJG:=Lib.hid hjg
       clear hjg
       obtain ⟨-,hcap7,hmax7,hg7,hcells7⟩:=Vx hown7
       unfold maxLen at hmax7
       cases j with
       | zero =>
        clear hcells7
        go_wp2_with fail
        go_quiet (fail)
        go_wp2_with fail
        go_roundg (ms.length - (k+1))
        case measure=>rw[HG.out];omega
        case rel =>
         refine ⟨k+1,_,rfl,hlt,by simp,?_,Jh (hgath.out.ins HW.out HV.out (j:=0) (Nat.zero_le _) hdrop.out (fun y hy=>by simp at hy)),?_,below_drewN hB7 _⟩
         ·rw[V0 _ _ _ (Nat.zero_le _)];omega
         ·exact hown7
       | succ j =>
        obtain ⟨c,hc⟩:∃ c,O[j]?=some c:=⟨_,List.getElem?_eq_getElem hj⟩
        obtain ⟨s0,s1,s2,s3⟩:=hcells7 (j+1) _ (Ui O _ (j+1) hj)
        obtain ⟨s4,s5,s6,s7⟩:=hcells7 j c ((WN O _ j hj).trans hc)
        simp only at s0 s1
        have HC:=Lib.hid hc
        have hne:¬ g6=wr.heap.size:=by omega
        clear hcells7 hc
        by_cases hcl:x.name.toList<c.name.toList
        ·have hcl':Op.bytesLess x.name.toList c.name.toList=true:=by rw[bytesLess_eq];simpa using hcl
         have HCL:=Lib.hid hcl
         clear hcl
         go_wp2_with fail
         go_quiet (fail)
         have hbq:Below wr.heap.size wr (wr.drewN nq):=below_drewN (Below.refl _ _) _
         have hown8:=hown7.ext (Ext.of_below (S:=fun _=>False) hbq) (fun _ _ h=>h)
         have hB8:Below w.heap.size w (wr.drewN nq):=below_drewN hB7 _
         clear hbq s0 s1 s2 s3 s4 s5 s6 s7 hg7 hne
         generalize wr.drewN nq=wq at *
         obtain ⟨-,-,-,hg7,hcells7⟩:=Vx hown8
         obtain ⟨s0,s1,s2,s3⟩:=hcells7 (j+1) _ (Ui O _ (j+1) hj)
         obtain ⟨s4,s5,s6,s7⟩:=hcells7 j c ((WN O _ j hj).trans HC.out)
         simp only at s0 s1
         have hne:¬ g6=wq.heap.size:=by omega
         clear hcells7
         go_wp2_with fail
         go_roundg j
         case measure=>rw[HJG.out];omega
         case rel =>
          have hs8:=hB8.size
          refine ⟨j,rfl,by omega,by go_num,?_,(Q5 hown8 HC.out).alloc _,?_⟩
          ·intro y hy
           obtain ⟨hj',hc'⟩:=List.getElem?_eq_some_iff.1 HC.out
           rw[List.drop_eq_getElem_cons hj',hc'] at hy
           rcases List.mem_cons.1 hy with rfl|hy
           ·exact HCL.out
           ·exact hdrop.out y hy
          ·exact ((((hB8.setCell (by simp;omega) _).setCell (by simp;omega) _).setCell (by simp;omega) _).setCell (by simp;omega) _).alloc (by simp;omega) _
        ·have hcl':Op.bytesLess x.name.toList c.name.toList=false:=by rw[bytesLess_eq];simpa using hcl
         have HCL:=Lib.hid hcl
         clear hcl
         go_wp2_with fail
         go_quiet (fail)
         go_wp2_with fail
         go_roundg (ms.length - (k+1))
         case measure=>rw[HG.out];omega
         case rel =>
          refine ⟨k+1,_,rfl,hlt,by simp,?_,Jh (hgath.out.ins HW.out HV.out (j:=j+1) hj hdrop.out ?_),?_,below_drewN hB7 _⟩
          ·rw[V0 _ _ _ hj];omega
          ·have hcx:c.name.toList<x.name.toList:=by
            refine Classical.byContradiction fun h=>HLN.out c (List.mem_of_getElem? HC.out) (WE _ _ h HCL.out)
           intro y hy
           obtain ⟨hj',hc'⟩:=List.getElem?_eq_some_iff.1 HC.out
           rw[List.take_succ_eq_append_getElem hj',hc'] at hy
           rcases List.mem_append.1 hy with hy|hy
           ·have hp:=hgath.out.rising
            rw[←List.take_append_drop j O,List.pairwise_append] at hp
            exact List.lt_trans (hp.2.2 y hy c (by rw[List.drop_eq_getElem_cons hj',hc'];simp)) hcx
           ·rw[List.mem_singleton.1 hy];exact hcx
          ·exact hown7
   ·have HN:Hid (¬ (Win l ms i x.name k x∧x.value≠⟨#[]⟩)):=Jh (fun h=>hck (HCW.out.2 h.1))
    clear HCW
    go_wp2_with fail
    go_roundg (ms.length - (k+1))
    case measure=>rw[HG.out];omega
    case rel=>exact ⟨k+1,O,rfl,by omega,by simp,by omega,Jh (hgath.out.skip HX.out HN.out),hown1,hB1⟩
  ·obtain rfl:k=ms.length:=by omega
   clear hB hg
   go_wp2_with fail
   go_ret
   exact ⟨_,O,rfl,hown,Lib.hid hgath.out.hasL,HB.out⟩
end Go.Proofs.YtlgipkemoldckaaGreatDoor
namespace Go.Proofs.YtlgipkemoldckaaGreatDoor
open Go.RowKit Go.Sort Go.Shelf
theorem Z0P (F:List Zb) (i:Int):((Yt F i).map (·.1)).Nodup:=by
 unfold Yt
 have:∀ (F:List Zb) (h:List (ByteArray × Atr)),(h.map (·.1)).Nodup→((F.foldl (fun h x=>if x.lo≤i∧i<x.hi then Zw h x.op.name (⟨x.op.name,x.op.value⟩:Atr) else h) h).map (·.1)).Nodup:=by
  intro F
  induction F with
  | nil=>intro h hh;exact hh
  | cons x F ih =>
   intro h hh
   rw[List.foldl_cons]
   refine ih _ ?_
   split
   ·exact U7 h _ _ hh
   ·exact hh
 exact this F [] List.nodup_nil
end Go.Proofs.YtlgipkemoldckaaGreatDoor
namespace Go.Proofs.YtlgipkemoldckaaGreatDoor
open Go.RowKit
theorem Qb {α:Type} {a b:List α} (hl:a.length=b.length) {k:Nat} (hk:∀ j,j<k→a[j]?=b[j]?) (h:a.length≤k):a=b :=
 List.ext_getElem? fun j=>by
  by_cases hj:j<k
  ·exact hk j hj
  ·rw[List.getElem?_eq_none (by omega),List.getElem?_eq_none (by omega)]
theorem Tp (va vb:Value) (la lb:List Atr) (w:World) (ha:Z5 Atr.cells 2 w va la) (hb:Z5 Atr.cells 2 w vb lb) :
  Calls Tryz.prog 33 #[va,vb] w fun e w'=>e=.returned (.bool (decide (la=lb)))∧Below w.heap.size w w':=by
 obtain ⟨aa,capa,rfl,hca,hma,hcella⟩:=ha
 obtain ⟨ab,capb,rfl,hcb,hmb,hcellb⟩:=hb
 unfold maxLen at hma hmb
 by_cases hl:la.length=lb.length
 ·have HL:=Lib.hid hl
  have hl1:(((la.length:Nat):Int) != ((lb.length:Nat):Int))=false:=by simp[hl]
  clear hl
  go_enter Tryz.func33,Tryz.ntmps33
  go_wp2_with fail
  go_loopg [5] la.length (fun g i wr=>∃ k:Nat,g=la.length - k∧k≤la.length∧i=.int .i64 k∧Hid (∀ j,j<k→la[j]?=lb[j]?)∧Below w.heap.size w wr)
  case atStart=>exact ⟨0,rfl,Nat.zero_le _,rfl,fun j hj=>absurd hj (by omega),Below.refl _ _⟩
  case round =>
   obtain ⟨k,hg,hk,rfl,hpre,hB⟩:=hrel
   by_cases hlt:k<la.length
   ·obtain ⟨x,hx⟩:∃ x,la[k]?=some x:=⟨_,List.getElem?_eq_getElem hlt⟩
    obtain ⟨y,hy⟩:∃ y,lb[k]?=some y:=⟨_,List.getElem?_eq_getElem (by rw[←HL.out];exact hlt)⟩
    obtain ⟨b1,o1,rfl,hc1⟩:=hcella (by intro e;rw[e] at hlt;simp at hlt)
    obtain ⟨b2,o2,rfl,hc2⟩:=hcellb (by intro e;rw[e] at hy;simp at hy)
    have c10:wr.cell? ⟨b1,o1+k*2,none⟩=some (.string x.name):=Z0 hB (hc1 k x hx 0 _ rfl)
    have c11:wr.cell? ⟨b1,o1+k*2+1,none⟩=some (.string x.value):=Z0 hB (hc1 k x hx 1 _ rfl)
    have c20:wr.cell? ⟨b2,o2+k*2,none⟩=some (.string y.name):=Z0 hB (hc2 k y hy 0 _ rfl)
    have c21:wr.cell? ⟨b2,o2+k*2+1,none⟩=some (.string y.value):=Z0 hB (hc2 k y hy 1 _ rfl)
    have hlt2:k<lb.length:=(List.getElem?_eq_some_iff.1 hy).1
    have HX:=Lib.hid hx
    have HY:=Lib.hid hy
    have HG:=Lib.hid hg
    clear hx hy hg hcella hcellb hc1 hc2
    by_cases hxy:x=y
    ·subst hxy
     go_wp2_with fail
     go_region_held3 (fun W=>W.cell? ⟨b1,o1+k*2,none⟩=some (.string x.name)∧W.cell? ⟨b1,o1+k*2+1,none⟩=some (.string x.value)∧W.cell? ⟨b2,o2+k*2,none⟩=some (.string x.name)∧W.cell? ⟨b2,o2+k*2+1,none⟩=some (.string x.value)) (exact ⟨c10,c11,c20,c21⟩) (fail)
     go_wp2_with fail
     go_roundg (la.length - (k+1))
     case measure=>rw[HG.out];omega
     case rel =>
      refine ⟨k+1,rfl,hlt,by go_num,fun j hj=>?_,hB.drew⟩
      by_cases hjk:j<k
      ·exact hpre.out j hjk
      ·have:j=k:=by omega
       subst this
       rw[HX.out,HY.out]
    ·have hres:decide (la=lb)=false:=by
      rw[decide_eq_false_iff_not]
      intro e
      rw[e,HY.out] at HX
      exact hxy (Option.some.inj HX.out).symm
     have HR:=Lib.hid hres
     clear hres
     by_cases h1:x.name.toList=y.name.toList
     ·have h2:¬ x.value.toList=y.value.toList:=fun h2=>hxy (by
       obtain ⟨xn,xv⟩:=x
       obtain ⟨yn,yv⟩:=y
       have e1:=(ZO _ _).1 h1
       have e2:=(ZO _ _).1 h2
       simp only at e1 e2
       rw[e1,e2])
      go_wp2_with fail
      go_region_held3 (fun W=>W.cell? ⟨b1,o1+k*2,none⟩=some (.string x.name)∧W.cell? ⟨b1,o1+k*2+1,none⟩=some (.string x.value)∧W.cell? ⟨b2,o2+k*2,none⟩=some (.string y.name)∧W.cell? ⟨b2,o2+k*2+1,none⟩=some (.string y.value)) (exact ⟨c10,c11,c20,c21⟩) (fail)
      go_wp2_with fail
      go_ret
      exact ⟨by rw[HR.out];rfl,hB.drew⟩
     ·go_wp2_with fail
      go_region_held3 (fun W=>W.cell? ⟨b1,o1+k*2,none⟩=some (.string x.name)∧W.cell? ⟨b1,o1+k*2+1,none⟩=some (.string x.value)∧W.cell? ⟨b2,o2+k*2,none⟩=some (.string y.name)∧W.cell? ⟨b2,o2+k*2+1,none⟩=some (.string y.value)) (exact ⟨c10,c11,c20,c21⟩) (fail)
      go_wp2_with fail
      go_ret
      exact ⟨by rw[HR.out];rfl,hB.drew⟩
   ·have hres:decide (la=lb)=true:=by
     rw[decide_eq_true_eq]
     exact Qb HL.out hpre.out (by omega)
    have HR:=Lib.hid hres
    clear hres
    go_wp2_with fail
    go_ret
    exact ⟨by rw[HR.out];rfl,hB⟩
 ·have hres:decide (la=lb)=false:=by
   rw[decide_eq_false_iff_not]
   intro e
   exact hl (by rw[e])
  rw[hres]
  clear hres
  have hl1:(((la.length:Nat):Int) != ((lb.length:Nat):Int))=true:=by simp;omega
  go_enter Tryz.func33,Tryz.ntmps33
  go_wp2_with fail
  go_ret
  exact ⟨rfl,Below.refl _ _⟩
noncomputable def VM (l:List El) (ms:List OpD) (k:Nat):List Atr:=@dite _ (∃ al,Ul l ms (k:Int) al) (Classical.propDecidable _) (fun h=>Classical.choose h) (fun _=>[])
theorem Rh {l:List El} {ms:List OpD} {k:Nat} {al:List Atr} (h:Ul l ms k al):VM l ms k=al:=by
 have h1:∃ al,Ul l ms (k:Int) al:=⟨al,h⟩
 unfold VM
 rw[dif_pos h1]
 exact (Classical.choose_spec h1).unique h
def chB (c:Int):ByteArray:=⟨#[UInt8.ofNat (c % 256).toNat]⟩
theorem TU (b:ByteArray):(⟨#[]⟩:ByteArray)++b=b:=by
 apply ByteArray.ext
 rw[ByteArray.data_append]
 simp
abbrev Pcs:=List (ByteArray × List Atr)
def YP (x:El) (al:List Atr) (P:Pcs):Pcs :=
 if x.ch=0∨x.gone=true then P
 else match P.getLast? with
  | some q=>if q.2=al then P.dropLast++[(q.1++chB x.ch,al)] else P++[(chB x.ch,al)]
  | none=>P++[(chB x.ch,al)]
noncomputable def Xh (l:List El) (ms:List OpD) (f:Nat):Nat→Pcs
 | 0=>[]
 | n+1=>match l[f+n]? with
  | some x=>YP x (VM l ms (f+n)) (Xh l ms f n)
  | none=>Xh l ms f n
theorem SG {l:List El} {ms:List OpD} {f n:Nat} {x:El} (hx:l[f+n]?=some x):Xh l ms f (n+1)=YP x (VM l ms (f+n)) (Xh l ms f n):=by
 rw[Xh,hx]
theorem Th {x:El} {al:List Atr} {P:Pcs} (h:x.ch=0∨x.gone=true):YP x al P=P:=if_pos h
theorem UU {x:El} {al:List Atr} (h:¬ (x.ch=0∨x.gone=true)):YP x al []=[(chB x.ch,al)]:=by
 unfold YP
 rw[if_neg h]
 rfl
theorem Tn {x:El} {t:ByteArray} {al:List Atr} {P:Pcs} (h:¬ (x.ch=0∨x.gone=true)):YP x al (P++[(t,al)])=P++[(t++chB x.ch,al)]:=by
 unfold YP
 rw[if_neg h]
 simp
theorem TH {x:El} {t:ByteArray} {al bl:List Atr} {P:Pcs} (h:¬ (x.ch=0∨x.gone=true)) (hne:bl≠al):YP x al (P++[(t,bl)])=P++[(t,bl)]++[(chB x.ch,al)]:=by
 unfold YP
 rw[if_neg h]
 simp[hne]
theorem Sp (l:List El) (ms:List OpD) (f:Nat):∀ n,(Xh l ms f n).length≤n
 | 0=>by simp[Xh]
 | n+1=>by
  have ih:=Sp l ms f n
  rw[Xh]
  split
  ·unfold YP
   split
   ·omega
   ·split
    ·rename_i q hq
     have hne:Xh l ms f n≠[]:=fun e=>by rw[e] at hq;cases hq
     have:=List.length_pos_iff.2 hne
     split <;> simp <;> omega
    ·simp;omega
  ·omega
theorem UB (l:List El) (ms:List OpD) (f:Nat):∀ n,∀ q∈Xh l ms f n,q.1.size≤n
 | 0=>by simp[Xh]
 | n+1=>by
  have ih:=UB l ms f n
  have hc:∀ c,(chB c).size=1:=fun c=>rfl
  rw[Xh]
  split
  ·unfold YP
   split
   ·intro q hq;have:=ih q hq;omega
   ·split
    ·rename_i q hq
     have hq1:=ih q (List.mem_of_getLast? hq)
     split
     ·intro z hz
      rw[List.mem_append,List.mem_singleton] at hz
      rcases hz with hz|rfl
      ·have:=ih z ((List.dropLast_subset _) hz);omega
      ·simp only[ByteArray.size_append,hc];omega
     ·intro z hz
      rw[List.mem_append,List.mem_singleton] at hz
      rcases hz with hz|rfl
      ·have:=ih z hz;omega
      ·simp only[hc];omega
    ·intro z hz
     rw[List.mem_append,List.mem_singleton] at hz
     rcases hz with hz|rfl
     ·have:=ih z hz;omega
     ·simp only[hc];omega
  ·intro q hq;have:=ih q hq;omega
structure Pc where
 t:ByteArray
 s:Sl
def Pc.cells (x:Pc):List Value:=[.string x.t,.slice x.s.a x.s.n x.s.cap]
theorem Pc.len (x:Pc):x.cells.length=2:=rfl
theorem Pc.one (x:Pc):∀ u∈x.cells,u.oneCell'=true:=by
 intro u hu
 simp only[Pc.cells,List.mem_cons,List.not_mem_nil,or_false] at hu
 rcases hu with rfl|rfl <;> rfl
def Xb (base:Nat) (W:World) (u:Value) (P:Pcs):Prop :=
 ∃ vs:List Pc,Own Pc.cells 2 75 base W u vs∧vs.length=P.length∧∀ (j:Nat) (x:Pc),vs[j]?=some x→∃ al,P[j]?=some (x.t,al)∧Own Atr.cells 2 73 base W x.s.val al
theorem Xb.ext {base:Nat} {W W':World} {u:Value} {P:Pcs} (h:Xb base W u P) (hb:Below W.heap.size W W'):Xb base W' u P:=by
 obtain ⟨vs,h1,h2,h3⟩:=h
 have hx:Ext (fun _=>False) W W':=Ext.of_below hb
 refine ⟨vs,h1.ext hx (fun _ _ f=>f),h2,fun j x hj=>?_⟩
 obtain ⟨al,h4,h5⟩:=h3 j x hj
 exact ⟨al,h4,h5.ext hx (fun _ _ f=>f)⟩
theorem TJ:(Tryz.prog.info? 75).map (fun i=>(i.zero,i.size,i.bytes))=some (some (.agg #[.string ⟨#[]⟩,.slice none 0 0]),2,40):=by kernel_rfl
theorem Vm (W:World) (b:Nat) (c:Int) (h:W.cell? ⟨b,0,none⟩=some (.int .u8 (c % 256))):(convert 64 9 (.slice (some ⟨b,0,none⟩) 1 1)).run Tryz.prog W=.ok (.string (chB c)) W:=by
 rw[run_convert_bytes_string W 64 9 5 (some ⟨b,0,none⟩) 1 1 Tryz.underlying64 (by kernel_rfl) Tryz.underlying9]
 have hl:=run_loadCells_list (P:=Tryz.prog) W ⟨b,0,none⟩ [.int .u8 (c % 256)] (fun j v hj=>by
  rw[Uo,Nat.zero_add]
  match j,hj with
  | 0,hj=>simp at hj;subst hj;exact h
  | n+1,hj=>simp at hj)
 have:=run_bytesToString (P:=Tryz.prog) W ⟨b,0,none⟩ 1 1 [c % 256] hl
 rw[this]
 rfl
end Go.Proofs.YtlgipkemoldckaaGreatDoor
