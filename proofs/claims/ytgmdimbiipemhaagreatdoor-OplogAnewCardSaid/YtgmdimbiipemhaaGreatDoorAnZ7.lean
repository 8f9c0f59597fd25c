/- OplogAnew, part 7 of what the proof leans on (made short by a program). -/
import Derived.Test.YtgmdimbiipemhaaGreatDoorAnZ5
import Derived.Test.YtgmdimbiipemhaaGreatDoorAnZ6
set_option linter.unusedSimpArgs false
set_option linter.unusedVariables false
set_option linter.unusedSectionVars false
set_option maxRecDepth 20000
set_option maxHeartbeats 30000000
namespace Go.Proofs.YtgmdimbiipemhaaGreatDoor
open Go.RowKit Go.Deep
theorem Xc {W:World} {b off n cap:Nat} {l:List OpD} (h:Z0 OpD.cells 26 W (.slice (some ⟨b,off,none⟩) n cap) l) {k:Nat} {x:OpD} (hx:l[k]?=some x) :
  (Instr.loadAt 68 (.pointer (some ⟨b,off+k*26,none⟩))).run Tryz.prog W=.ok (.agg x.cells.toArray) W :=
 SP XO rfl (fun j u hj=>by
  obtain ⟨_,_,e,_,_,h4⟩:=h
  cases e
  obtain ⟨b2,o2,e2,h5⟩:=h4 (by rintro rfl;simp at hx)
  cases e2
  exact h5 k x hx j u hj)
theorem Z0.some8 {α:Type} {ea:α→List Value} {q:Nat} {W:World} {a:Option Addr} {n cap:Nat} {l:List α} (h:Z0 ea q W (.slice a n cap) l) (hl:l≠[]):∃ b o,a=some ⟨b,o,none⟩:=by
 obtain ⟨_,_,e,_,_,h4⟩:=h
 cases e
 obtain ⟨b,o,e,_⟩:=h4 hl
 exact ⟨b,o,e⟩
theorem Xz (W:World) (x:OpD):(Instr.storeAt 68 (.pointer (some ⟨W.heap.size,0,none⟩)) (.agg x.cells.toArray)).run Tryz.prog (W.alloc (.cells #[.int .i64 0,.int .i64 0,.int .i64 0,.int .i64 0,.int .i64 0,.int .i64 0,.int .i64 0,.int .i64 0,.int .i64 0,.int .i64 0,.int .i64 0,.int .i64 0,.int .i64 0,.int .i64 0,.int .i64 0,.int .i64 0,.int .i64 0,.string { data:=#[] },.string { data:=#[] },.string { data:=#[] },.int .i64 0,.int .i64 0,.bool false,.int .i64 0,.int .i64 0,.bool false] 68))=.ok () (W.alloc (.cells x.cells.toArray 68)) :=
 WS XO rfl (OpD.len x) (OpD.one x)
theorem V5.ne {R base:Nat} {Ls:Nat→List Int} {A:Nat→Prop} {W W':World} {S:Nat→Prop} (h:V5 R base Ls A W) (hx:Ext S W W') (hR:¬ S R) {k:Nat} (hk:W.heap.size≤k):∀ cs,W'.heap[R]?=some (.cells cs 100 (0,0))→∀ q,q<21→¬ (cs.getD q undef).ownBlock=some k:=by
 intro cs hcs q hq hb
 obtain ⟨cs2,h1,h2,h3,_⟩:=h.ex
 have h4:=(hx.block _ (Array.getElem?_eq_some_iff.1 h2).1 hR).trans h2
 rw[h4] at hcs
 cases hcs
 have:=((h3 q hq).blk k hb).2
 omega
theorem V5.congr {R base:Nat} {Ls Ls':Nat→List Int} {A A':Nat→Prop} {W:World} (h:V5 R base Ls A W) (he:∀ q,q<21→Ls q=Ls' q) (hA:∀ k,A' k→A k):V5 R base Ls' A' W:=by
 obtain ⟨cs,h1,h2,h3,h4,h5⟩:=h.ex
 exact ⟨cs,h1,h2,fun q hq=>by rw[←he q hq];exact h3 q hq,h4,fun q hq k hk ha=>h5 q hq k hk (hA k ha)⟩
theorem Z5f (Ls:Nat→List Int) (o:OpD):WQ Ls o 0=Ls:=by funext q;unfold WQ;rw[if_neg (by omega)]
theorem Z60 {l:List OpD} {k:Nat} {x:OpD} (hx:l[k]?=some x) {q:Nat} (hq:q<21):WQ (fun q=>Y8 (l.take k) q) x 21 q=Y8 (l.take (k+1)) q:=by
 unfold WQ Y8
 rw[if_pos hq,List.take_add_one,hx,Option.toList_some,List.map_append]
 rfl
theorem Z5M:(Tryz.prog.info? 100).map (fun i=>(i.zero,i.size,i.bytes))=some (some (.slice none 0 0),1,24):=by kernel_rfl
def RW (w5:World) (l:List OpD) (k:Nat) (W:World):Prop:=V5 w5.heap.size (w5.heap.size+2) (fun q=>Y8 (l.take k) q) (fun j=>j<w5.heap.size) W∧W.heap[w5.heap.size+1]?=some (.cells #[.slice (some ⟨w5.heap.size,0,none⟩) 21 21] 161 (0,0))∧Below w5.heap.size w5 W∧w5.heap.size+2≤W.heap.size
theorem QD {l:List OpD} (hwf:∀ x∈l,x.wf) (hl:l.length≤200) {c:Nat} (hc:c<21):(WF l c).length≤4000∧∀ x∈Y8 l c,-9223372036854775808≤x∧x≤9223372036854775807:=by
 have hin:∀ x∈Y8 l c,-9223372036854775808≤x∧x≤9223372036854775807:=fun x hx=>by
  obtain ⟨o,ho,rfl⟩:=List.mem_map.1 hx
  exact (hwf o ho).2 c hc
 refine ⟨?_,hin⟩
 have hlen:(Y8 l c).length=l.length:=by simp[Y8]
 unfold WF
 split
 ·have:=Uo _ (ZG (Y8 l c)) rfl (by rw[Xj,hlen];omega) (fun x hx=>VD (Uj hin x hx).1 (Uj hin x hx).2)
  rw[Xj,hlen] at this
  omega
 ·have:=Uo _ (Y8 l c) rfl (by rw[hlen];omega) (fun x hx=>VD (hin x hx).1 (hin x hx).2)
  rw[hlen] at this
  omega
theorem XJ {l:List OpD} (hwf:∀ x∈l,x.wf) (hl:l.length≤200):∀ c,c≤21→(ZN l c).length≤4000*c
 | 0,_=>by simp[ZN]
 | c+1,h=>by
  rw[Wz,List.length_append]
  have h1:=XJ hwf hl c (by omega)
  have h2:=(QD hwf hl (c:=c) (by omega)).1
  omega
structure R3 (w:World) (l:List OpD) (cv:Value) (R:Nat) (cs:Nat→Value) (W:World) (out:Value) (bs:List UInt8):Prop where
 own:Own u8c 1 5 w.heap.size W out bs
 bel:Below w.heap.size w W
 col:Own btc 1 4 w.heap.size W cv (WP 21)
 row:∃ cells,W.heap[R]?=some (.cells cells 100 (0,0))∧cells.size=21∧∀ q,q<21→cells.getD q undef=cs q
 num:∀ q,q<21→Own Zh 1 3 w.heap.size W (cs q) (Y8 l q)
theorem R3.below {w W w1:World} {l:List OpD} {cv:Value} {R:Nat} {cs:Nat→Value} {out:Value} {bs:List UInt8} (h:R3 w l cv R cs W out bs) (hb:Below W.heap.size W w1):R3 w l cv R cs w1 out bs:=by
 obtain ⟨cells,h1,h2,h3⟩:=h.row
 exact ⟨h.own.below1 hb,h.bel.trans (hb.mono h.bel.size),h.col.below1 hb,⟨cells,(hb.block _ (Array.getElem?_eq_some_iff.1 h1).1).trans h1,h2,h3⟩,fun q hq=>(h.num q hq).below1 hb⟩
theorem R3.app {w w1:World} {l:List OpD} {cv vx:Value} {R:Nat} {cs:Nat→Value} {out:Value} {bs ys:List UInt8} (h:R3 w l cv R cs w1 out bs) (hx:Z0 u8c 1 w1 vx ys) (hl:bs.length+ys.length≤140737488355328) :
  ∃ (s:Sl) (w2:World),(Builtin.append_ #[22,22] 22 #[out,vx]).run Tryz.prog w1=.ok (.slice s.a s.n s.cap) w2∧R3 w l cv R cs w2 (.slice s.a s.n s.cap) (bs++ys):=by
 obtain ⟨i0,hi,hz0,hz1,hz2⟩:=info_parts YO
 obtain ⟨v',w',hr,ho2,hx2⟩:=Yl (P:=Tryz.prog) 22 22 i0 _ 1 Tryz.underlying22 hi hz0 hz1 hz2 rfl (by omega) Z7 Wt h.own hx (by unfold maxLen;omega) (by omega) h.bel.size
 obtain ⟨s,rfl⟩:=ho2.sl
 have tag:∀ {b:Nat} {cur:Array Value} {t:TypeId},w1.heap[b]?=some (.cells cur t (0,0))→t≠5→¬ out.ownBlock=some b:=fun hb ht e=>by
  obtain ⟨cur2,h2⟩:=h.own.tag e
  rw[hb] at h2
  cases h2
  exact ht rfl
 obtain ⟨cells,h1,h2,h3⟩:=h.row
 refine ⟨s,w',hr,ho2,Ext.new h.bel hx2 (fun i hi _ e=>by have:=(h.own.blk i e).1;omega) h.bel.size,h.col.ext hx2 (fun k hk e=>?_),⟨cells,(hx2.block _ (Array.getElem?_eq_some_iff.1 h1).1 (tag h1 (by decide))).trans h1,h2,h3⟩,fun q hq=>(h.num q hq).ext hx2 (fun k hk e=>?_)⟩
 ·obtain ⟨cur,hc⟩:=h.col.tag hk
  exact tag hc (by decide) e
 ·obtain ⟨cur,hc⟩:=(h.num q hq).tag hk
  exact tag hc (by decide) e
structure R4 (w:World) (W:World) (out:Value) (bs:List UInt8):Prop where
 own:Own u8c 1 5 w.heap.size W out bs
 bel:Below w.heap.size w W
theorem R4.below {w W w1:World} {out:Value} {bs:List UInt8} (h:R4 w W out bs) {k:Nat} (hb:Below k W w1) (hk:W.heap.size≤k):R4 w w1 out bs :=
 ⟨h.own.below1 (hb.mono hk),h.bel.trans (hb.mono (Nat.le_trans h.bel.size hk))⟩
theorem R4.app {w w1:World} {vx:Value} {out:Value} {bs ys:List UInt8} (h:R4 w w1 out bs) (hx:Z0 u8c 1 w1 vx ys) (hl:bs.length+ys.length≤140737488355328) :
  ∃ (s:Sl) (w2:World),(Builtin.append_ #[22,22] 22 #[out,vx]).run Tryz.prog w1=.ok (.slice s.a s.n s.cap) w2∧R4 w w2 (.slice s.a s.n s.cap) (bs++ys)∧Ext (fun b=>out.ownBlock=some b) w1 w2:=by
 obtain ⟨i0,hi,hz0,hz1,hz2⟩:=info_parts YO
 obtain ⟨v',w',hr,ho2,hx2⟩:=Yl (P:=Tryz.prog) 22 22 i0 _ 1 Tryz.underlying22 hi hz0 hz1 hz2 rfl (by omega) Z7 Wt h.own hx (by unfold maxLen;omega) (by omega) h.bel.size
 obtain ⟨s,rfl⟩:=ho2.sl
 exact ⟨s,w',hr,⟨ho2,Ext.new h.bel hx2 (fun i hi _ e=>by have:=(h.own.blk i e).1;omega) h.bel.size⟩,hx2⟩
theorem Ux {base:Nat} {w:World} {v:Value} {l:List UInt8} (h:Own u8c 1 5 base w v l) (s:ByteArray) (hb:base≤w.heap.size) (hl:l.length+s.size≤140737488355328) :
  ∃ (r:Sl) (w2:World),(Builtin.append_ #[22,9] 22 #[v,.string s]).run Tryz.prog w=.ok (.slice r.a r.n r.cap) w2∧Own u8c 1 5 base w2 (.slice r.a r.n r.cap) (l++s.data.toList)∧Ext (fun b=>v.ownBlock=some b) w w2:=by
 obtain ⟨i0,hi,hz0,hz1,hz2⟩:=info_parts YO
 obtain ⟨v',w',hr,ho2,hx2,-⟩:=Lib.run_append_own_string (P:=Tryz.prog) w base 22 9 22 5 i0 Tryz.underlying22 Tryz.underlying9 hi hz0 hz1 hz2 v l.length (l.flatMap u8c) h s (by unfold maxLen;omega) hl hb
 have ho3:Own u8c 1 5 base w' v' (l++s.data.toList):=by
  unfold Own
  rw[List.length_append,List.flatMap_append,show s.data.toList.length=s.size from by rw[Array.length_toList];rfl,show s.data.toList.flatMap u8c=Lib.strCells s from by
   unfold Lib.strCells
   induction s.data.toList with
   | nil=>rfl
   | cons a t ih=>rw[List.flatMap_cons,ih,List.map_cons];rfl]
  exact ho2
 obtain ⟨r,rfl⟩:=ho3.sl
 exact ⟨r,w',hr,ho3,Ext.of_grown hx2⟩
theorem Yz (l:List OpD) (c:Nat):(Zr l c).length=l.length:=by simp[Zr]
theorem Wb (l:List OpD) (c:Nat):(Zw l c).length=l.length:=by simp[Zw]
theorem Ty {l:List OpD} {k:Nat} {x:OpD} (hx:l[k]?=some x) (c:Nat):Zr (l.take (k+1)) c=Zr (l.take k) c++[tru x c]:=by
 unfold Zr
 rw[List.take_add_one,hx,Option.toList_some,List.map_append]
 rfl
theorem Tl {l:List OpD} {k:Nat} {x:OpD} (hx:l[k]?=some x) (c:Nat):Zw (l.take (k+1)) c=Zw (l.take k) c++[((txt x c).size:Int)]:=by
 unfold Zw
 rw[List.take_add_one,hx,Option.toList_some,List.map_append]
 rfl
theorem Ts {l:List OpD} {k:Nat} {x:OpD} (hx:l[k]?=some x) (c:Nat):ZC (l.take (k+1)) c=ZC (l.take k) c++(txt x c).data.toList:=by
 unfold ZC
 rw[List.take_add_one,hx,Option.toList_some,List.flatMap_append]
 simp
theorem Vb {l:List OpD} (hl:l.length≤200):∀ c,(Yw l c).length≤2010*c
 | 0=>by simp[Yw]
 | c+1=>by
  rw[WB,List.length_append]
  have h1:=Vb hl c
  have h2:=WA (l:=Zr l c) (by rw[Yz];omega)
  rw[Yz] at h2
  omega
theorem WE {l:List OpD} (hr:∀ x∈l,x.right=true) (c:Nat):(ZC l c).length≤64*l.length:=by
 induction l with
 | nil=>simp[ZC]
 | cons x l ih =>
  have h1:=ih (fun y hy=>hr y (List.mem_cons_of_mem _ hy))
  have h2:=(hr x (List.mem_cons_self ..))
  have h3:=OpD.right_txt h2 c
  have h4:(ZC (x :: l) c).length=(txt x c).size+(ZC l c).length:=by simp[ZC]
  rw[h4,List.length_cons]
  omega
theorem UD {l:List OpD} (hr:∀ x∈l,x.right=true) (c:Nat):∀ n∈Zw l c,-9223372036854775808≤n∧n≤9223372036854775807:=fun n hn=>by
 obtain ⟨o,ho,rfl⟩:=List.mem_map.1 hn
 have:=OpD.right_txt (hr o ho) c
 omega
theorem UN {l:List OpD} (hr:∀ x∈l,x.right=true) (hl:l.length≤200) (c:Nat):(Zc (Zw l c)).length≤4000:=by
 have:=Uo _ (Zw l c) rfl (by rw[Wb];omega) (fun x hx=>VD (UD hr c x hx).1 (UD hr c x hx).2)
 rw[Wb] at this
 omega
theorem Uh {l:List OpD} (hr:∀ x∈l,x.right=true) (hl:l.length≤200):∀ c,(X9 l c).length≤16800*c
 | 0=>by simp[X9]
 | c+1=>by
  rw[XW,List.length_append,List.length_append]
  have h1:=Uh hr hl c
  have h2:=UN hr hl c
  have h3:=WE hr c
  omega
theorem QP (p0 p1:Option Addr) (w:World):(Instr.index 168 (.agg #[.pointer p0,.pointer p1]) (.int .i64 0)).run Tryz.prog w=.ok (.pointer p0) w∧(Instr.index 168 (.agg #[.pointer p0,.pointer p1]) (.int .i64 1)).run Tryz.prog w=.ok (.pointer p1) w:=⟨by kernel_rfl,by kernel_rfl⟩
theorem Sp (p0 p1 p2:Option Addr) (w:World):(Instr.index 172 (.agg #[.pointer p0,.pointer p1,.pointer p2]) (.int .i64 0)).run Tryz.prog w=.ok (.pointer p0) w∧(Instr.index 172 (.agg #[.pointer p0,.pointer p1,.pointer p2]) (.int .i64 1)).run Tryz.prog w=.ok (.pointer p1) w∧(Instr.index 172 (.agg #[.pointer p0,.pointer p1,.pointer p2]) (.int .i64 2)).run Tryz.prog w=.ok (.pointer p2) w:=⟨by kernel_rfl,by kernel_rfl,by kernel_rfl⟩
def Z12 (w:World) (l:List OpD) (e:Ending) (w':World):Prop :=
 (l.length≤200∧(∀ x∈l,x.right=true)∧∃ v,e=.returned (.tuple #[v,.int .i64 0])∧Own u8c 1 5 w.heap.size w' v (Xm l)∧Below w.heap.size w w') ∨
 (200<l.length∧e=.returned (.tuple #[.slice none 0 0,.int .i64 1])∧Below w.heap.size w w') ∨
 (l.length≤200∧(∃ x∈l,x.right=false)∧e=.returned (.tuple #[.slice none 0 0,.int .i64 71])∧Below w.heap.size w w')
theorem Z4L (v:Value) (l:List OpD) (w:World) (h:Z0 OpD.cells 26 w v l) (hwf:∀ x∈l,x.wf) (hn:l.length≤1000000):Calls Tryz.prog 51 #[v] w fun e w'=>Z12 w l e w':=by
 obtain ⟨a,cap,rfl,hcap,hmax,-⟩:=id h
 unfold maxLen at hmax
 have HH:=Lib.hid h
 have HWF:=Lib.hid hwf
 clear h hwf
 by_cases hbig:200<l.length
 ·have hb1:(200:Int)<(l.length:Int):=by omega
  go_enter Tryz.func51,Tryz.ntmps51
  go_wp2_with fail
  go_ret2
  exact .inr (.inl ⟨hbig,rfl,Below.refl _ _⟩)
 ·have hb1:¬ (200:Int)<(l.length:Int):=by omega
  go_enter Tryz.func51,Tryz.ntmps51
  go_wp2_with fail
  go_loopg [29] l.length (fun g kv wx=>∃ k:Nat,g=l.length - k∧kv=.int .i64 k∧k≤l.length∧Hid ((∀ x∈l.take k,x.right=true)∧Below w.heap.size w wx))
  case atStart=>exact ⟨0,rfl,rfl,Nat.zero_le _,Lib.hid ⟨fun x hx=>by simp at hx,Below.refl _ _⟩⟩
  case round =>
   obtain ⟨k,hg,rfl,hk,HR⟩:=hrel
   have HG:=Lib.hid hg
   clear hg
   by_cases hlt:k<l.length
   ·have hk1:(k:Int)<(l.length:Int):=by omega
    obtain ⟨x,hx⟩:∃ x,l[k]?=some x:=⟨_,List.getElem?_eq_getElem hlt⟩
    have hsl:=HH.out.below HR.out.2
    obtain ⟨b0,o0,rfl⟩:=hsl.some8 (by rintro rfl;simp at hlt)
    have hld:=Xc hsl hx
    have hst:=Xz wr x
    have HLD:=Jh (And.intro hld hst)
    have HX:=Lib.hid hx
    have hxw:=HWF.out x (List.mem_of_getElem? hx)
    have HXW:=Lib.hid hxw
    have hb2:Below w.heap.size w (wr.alloc (.cells x.cells.toArray 68)):=HR.out.2.alloc HR.out.2.size _
    have hob:=OB.new wr x
    have hw2:=OB.whole hob
    have HW2:=Jh (And.intro hb2 hw2)
    clear hsl hld hst hx hxw hob hw2 hb2
    go_wp2_with (first|((with_reducible_and_instances refine Z9 (o:=⟨some 32,_,_,_,_,_⟩) (v:=.agg x.cells.toArray) ?_ ?_ ?_);rfl;exact Z8 rfl rfl HLD.out.1)|(refine Z2 (T:=68) rfl rfl rfl rfl HLD.out.2 ?_)|((with_reducible_and_instances refine Z9 (o:=⟨some 33,_,_,_,_,_⟩) (v:=.agg x.cells.toArray) ?_ ?_ ?_);rfl;exact Z8 rfl rfl HW2.out.2))
    refine (Z0w x _ HXW.out.1).mono ?_
    rintro e w3 ⟨rfl,b3⟩
    have HB3:Hid (Below w.heap.size w w3):=Jh (HW2.out.1.trans (b3.mono HW2.out.1.size))
    clear b3 HW2 HLD
    cases hr:x.right with
    | false =>
     have HBAD:Hid (∃ x∈l,x.right=false):=Lib.hid ⟨x,List.mem_of_getElem? HX.out,hr⟩
     clear hr
     go_wp2_with fail
     go_ret2
     exact .inr (.inr ⟨by omega,HBAD.out,rfl,HB3.out⟩)
    | true =>
     have HN:Hid ((∀ y∈l.take (k+1),y.right=true)∧Below w.heap.size w w3):=Lib.hid ⟨fun y hy=>by
      rw[List.take_add_one,HX.out,Option.toList_some] at hy
      rcases List.mem_append.1 hy with hy|hy
      ·exact HR.out.1 y hy
      ·rw[List.mem_singleton.1 hy];exact hr,HB3.out⟩
     clear hr HR HB3
     go_wp2_with fail
     go_roundg (l.length - (k+1))
     case measure=>rw[HG.out];omega
     case rel=>exact ⟨k+1,rfl,by simp,by omega,HN⟩
   ·obtain rfl:k=l.length:=by omega
    have hk1:¬ (l.length:Int)<(l.length:Int):=by omega
    have HALL:Hid (∀ x∈l,x.right=true):=Jh (by have:=HR.out.1;rwa [List.take_length] at this)
    have HB:Hid (Below w.heap.size w wr):=Lib.hid HR.out.2
    clear hlt HR hk
    have hlw:IntKind.u64.wrap (l.length:Int)=(l.length:Int):=by rw[Yc];omega
    go_wp2_with fail
    refine (UE l.length _ (by omega)).mono ?_
    rintro e w4 ⟨v4,rfl,hown4,b4⟩
    obtain ⟨⟨pa,pn,pc⟩,e4⟩:=hown4.sl
    dsimp only at e4
    subst e4
    have HB4:Hid (Below w.heap.size w w4∧Own u8c 1 5 w.heap.size w4 (.slice pa pn pc) (Z5 l.length)):=Lib.hid ⟨HB.out.trans (b4.mono HB.out.size),hown4.mono HB.out.size⟩
    clear hown4 b4 HB hlw
    go_wp2_with fail
    refine (Q2 _).mono ?_
    rintro e w5 ⟨v5,rfl,hown5,b5⟩
    obtain ⟨⟨ca,cn,cc⟩,e5⟩:=hown5.sl
    dsimp only at e5
    subst e5
    obtain rfl:cn=21:=by have:=(hown5.nlen ZX).1;rw[Re] at this;exact this
    have HB5:Hid (Below w.heap.size w w5∧Own u8c 1 5 w.heap.size w5 (.slice pa pn pc) (Z5 l.length)∧Own btc 1 4 w.heap.size w5 (.slice ca 21 cc) (WP 21)):=Lib.hid ⟨HB4.out.1.trans (b5.mono HB4.out.1.size),HB4.out.2.below1 b5,hown5.mono HB4.out.1.size⟩
    clear hown5 b5 HB4
    obtain ⟨i1,hi1,hy10,hy11,hy12⟩:=info_parts Z5M
    have hmk:=run_makeSlice (P:=Tryz.prog) w5 161 100 i1 (.slice none 0 0) Tryz.underlying161 hi1 hy10 .i64 .i64 21 21 (by omega) (by omega) (by rw[hy11];decide) (by rw[hy12];omega) (by omega)
    rw[hy11] at hmk
    obtain ⟨MC,hMC⟩:∃ MC:List Value,MC=List.replicate 21 (Value.slice none 0 0):=⟨_,rfl⟩
    have hmc:madeCells (Value.slice none 0 0).cells ((21:Int).toNat*1)=MC.toArray:=by rw[hMC,show (21:Int).toNat=21 from rfl,Si _ rfl];rfl
    rw[hmc] at hmk
    obtain ⟨W6,hW6⟩:=Je ((w5.alloc (.cells MC.toArray 100)).alloc (.cells #[.slice (some ⟨w5.heap.size,0,none⟩) 21 21] 161))
    have HR0:Hid (RW w5 l 0 W6):=Jh (by
     have h1:W6.heap[w5.heap.size]?=some (.cells MC.toArray 100 (0,0)):=by rw[←hW6];exact (Below.heap_alloc _ _ _ (by simp)).trans (ZB w5 _)
     have h2:W6.heap[w5.heap.size+1]?=some (.cells #[.slice (some ⟨w5.heap.size,0,none⟩) 21 21] 161 (0,0)):=by
      rw[←hW6]
      have:=ZB (w5.alloc (.cells MC.toArray 100)) (.cells #[.slice (some ⟨w5.heap.size,0,none⟩) 21 21] 161)
      rwa [World.size_alloc] at this
     have hg:∀ q,q<21→MC.toArray.getD q undef=.slice none 0 0:=fun q hq=>by
      rw[Array.getD_eq_getD_getElem?,List.getElem?_toArray,hMC,List.getElem?_replicate,if_pos hq]
      rfl
     refine ⟨⟨_,by simp[hMC],h1,fun q hq=>?_,fun q r hq hr _ k hk=>?_,fun q hq k hk=>?_⟩,h2,by rw[←hW6];exact ((Below.refl _ _).alloc (Nat.le_refl _) _).alloc (by simp) _,by rw[←hW6];simp⟩
     ·rw[hg q hq];exact Own.nil
     ·rw[hg q hq] at hk;cases hk
     ·rw[hg q hq] at hk;cases hk)
    have HW6:=Lib.hid hW6
    clear hW6 hmc hMC
    go_upto_region 12 with fail
    rw[HW6.out]
    clear hmk HW6
    go_wp2_with fail
    go_loopg [47] l.length (fun g kv wx=>∃ k:Nat,g=l.length - k∧kv=.int .i64 k∧k≤l.length∧Hid (RW w5 l k wx))
    case atStart=>exact ⟨0,rfl,rfl,Nat.zero_le _,HR0⟩
    case round =>
     clear HR0
     obtain ⟨k,hg,rfl,hk,HR⟩:=hrel
     have HG:=Lib.hid hg
     clear hg
     by_cases hlt:k<l.length
     ·have hk1:(k:Int)<(l.length:Int):=by omega
      obtain ⟨x,hx⟩:∃ x,l[k]?=some x:=⟨_,List.getElem?_eq_getElem hlt⟩
      have hsl:=HH.out.below (HB5.out.1.trans (HR.out.2.2.1.mono HB5.out.1.size))
      obtain ⟨b0,o0,rfl⟩:=hsl.some8 (by rintro rfl;simp at hlt)
      have HLD:=Jh (And.intro (Xc hsl hx) (Xz wr x))
      have HX:=Lib.hid hx
      clear hsl hx
      go_wp2_with (first|((with_reducible_and_instances refine Z9 (o:=⟨some 50,_,_,_,_,_⟩) (v:=.agg x.cells.toArray) ?_ ?_ ?_);rfl;exact Z8 rfl rfl HLD.out.1)|(refine Z2 (T:=68) rfl rfl rfl rfl HLD.out.2 ?_))
      have hz2:((wr.alloc (.cells x.cells.toArray 68)).alloc (.cells #[.int .i64 0] 3)).heap.size=wr.heap.size+2:=by simp
      have hx2:Ext (fun _=>False) wr ((wr.alloc (.cells x.cells.toArray 68)).alloc (.cells #[.int .i64 0] 3)):=((Ext.refl _ _).alloc _).alloc _
      have hop:OB wr.heap.size x ((wr.alloc (.cells x.cells.toArray 68)).alloc (.cells #[.int .i64 0] 3)):=(OB.new wr x).alloc _
      have hc2:((wr.alloc (.cells x.cells.toArray 68)).alloc (.cells #[.int .i64 0] 3)).heap[wr.heap.size+1]?=some (.cells #[.int .i64 0] 3 (0,0)):=by
       have:=ZB (wr.alloc (.cells x.cells.toArray 68)) (.cells #[.int .i64 0] 3)
       rwa [World.size_alloc] at this
      generalize (wr.alloc (.cells x.cells.toArray 68)).alloc (.cells #[.int .i64 0] 3)=W2 at hz2 hx2 hop hc2 ⊢
      have hA:At wr.heap.size 0 x (fld x) W2:=At.of_cells (fun j u hj=>by rw[Nat.zero_add];exact hop.cell hj) (fun j _=>by rw[Nat.zero_add];exact hop.free j)
      have hr:=HR.out
      have hJ0:JE w5.heap.size (w5.heap.size+1) (wr.heap.size+1) (w5.heap.size+2) (fun q=>Y8 (l.take k) q) x 0 (fun j=>j<w5.heap.size∨j=wr.heap.size) W2 :=
       ⟨by rw[Z5f];exact hr.1.ext hx2 id (fun _ f=>f.elim) (fun j hj=>hj.imp id (fun e=>by omega)),(hx2.block _ (by have:=hr.2.2.2;omega) id).trans hr.2.1,hc2,⟨fun h=>by have:=hr.2.2.2;omega,fun h=>by have:=hr.2.2.2;omega,fun h=>by have:=hr.2.2.2;omega⟩,⟨by omega,by have:=hr.2.2.2;omega,by have:=hr.2.2.2;omega,by omega,by omega,by omega⟩,by have:=hr.2.2.2;omega,fun j hj=>by have:=hr.2.2.2;omega,hr.1.ne hx2 id (by omega)⟩
      refine (Qj (enters_of Tryz.func93 (by kernel_rfl) rfl) wr.heap.size 0 x (fld x) _ (fun j=>j<w5.heap.size∨j=wr.heap.size) W2 (Z6v w5.heap.size (w5.heap.size+1) (wr.heap.size+1) (w5.heap.size+2) (fun q=>Y8 (l.take k) q) x (fun q=>by unfold Y8;rw[List.length_map,List.length_take];omega)) (JE.jok _ _ _ _ _ _ _) (.inr rfl) hA hJ0).mono ?_
      rintro e w3 ⟨⟨v3,rfl⟩,hJ,-,hx3,-⟩
      have HN:Hid (RW w5 l (k+1) w3):=Lib.hid ⟨hJ.1.congr (fun q hq=>Z60 HX.out hq) (fun j hj=>.inl hj),hJ.2.1,Ext.new (hr.2.2.1.trans ((Ext.below hx2).mono (by have:=hr.2.2.2;omega))) hx3 (fun i hi _ e=>e.elim (fun e=>e (.inl hi)) (fun e=>by have:=hr.2.2.2;omega)) (by have:=hr.2.2.2;omega),by have:=hx3.size;have:=hr.2.2.2;omega⟩
      clear hJ hx3 hJ0 hr hA hop hc2 hx2 hz2 HLD HR
      go_wp2_with fail
      go_roundg (l.length - (k+1))
      case measure=>rw[HG.out];omega
      case rel=>exact ⟨k+1,rfl,by simp,by omega,HN⟩
     ·obtain rfl:k=l.length:=by omega
      have hk1:¬ (l.length:Int)<(l.length:Int):=by omega
      clear hlt hk
      obtain ⟨⟨cells,hcs1,hcs2,hcs3,-,-⟩,hcs6,hcs7,-⟩:=HR.out
      have HR3:Hid (R3 w l (.slice ca 21 cc) w5.heap.size (fun q=>cells.getD q undef) wr (.slice pa pn pc) (Z5 l.length++ZN l 0)):=Lib.hid ⟨by rw[show ZN l 0=[] from rfl,List.append_nil];exact HB5.out.2.1.below1 hcs7,HB5.out.1.trans (hcs7.mono HB5.out.1.size),HB5.out.2.2.below1 hcs7,⟨cells,hcs2,hcs1,fun q hq=>rfl⟩,fun q hq=>by have:=hcs3 q hq;simp only[List.take_length] at this;exact this.mono (by have:=HB5.out.1.size;omega)⟩
      have c6:=cell_of_one hcs6
      generalize (fun q=>cells.getD q undef)=cs at HR3
      obtain ⟨R,hR⟩:∃ R,R=w5.heap.size:=⟨_,rfl⟩
      clear hcs1 hcs2 hcs3 hcs6 hcs7 HR
      go_wp2_with fail
      clear c6
      go_loopg [56,6] 21 (fun g kv ov wx=>∃ (k:Nat) (s:Sl),g=21 - k∧kv=.int .i64 k∧ov=.slice s.a s.n s.cap∧k≤21∧Hid (R3 w l (.slice ca 21 cc) w5.heap.size cs wx (.slice s.a s.n s.cap) (Z5 l.length++ZN l k)))
      case atStart=>exact ⟨0,⟨pa,pn,pc⟩,rfl,rfl,rfl,by omega,HR3⟩
      case round =>
       clear HR3
       obtain ⟨k,⟨ta,tn,tc⟩,hg,rfl,rfl,hk,HR⟩:=hrel
       dsimp only at HR ⊢
       have HG:=Lib.hid hg
       clear hg
       by_cases hlt:k<21
       ·have hk1:(k:Int)<21:=by omega
        have hcell:wr.cell? ⟨w5.heap.size,k,none⟩=some (cs k):=by
         obtain ⟨cells,h1,h2,h3⟩:=HR.out.row
         unfold World.cell?
         rw[h1,←h3 k hlt,Array.getD_eq_getD_getElem?]
         simp[h2,hlt]
        obtain ⟨⟨ra,rn,rc⟩,er⟩:=(HR.out.num k hlt).sl
        dsimp only at er
        rw[er] at hcell
        have HNUM:Hid (Z0 Zh 1 wr (.slice ra rn rc) (Y8 l k)):=Jh (by rw[←er];exact (HR.out.num k hlt).slice Zg)
        obtain ⟨b9,o9,e9,c9⟩:=(HR.out.col.slice ZX).at1 (k:=k) (x:=dlt k) (by simp[WP,hlt]) rfl
        cases e9
        have HCL:=Jh (QD HWF.out (by omega) hlt)
        have hln:(Y8 l k).length=l.length:=by simp[Y8]
        have HLN:=Lib.hid hln
        have HLEN:Hid ((Z5 l.length++ZN l k).length+(WF l k).length≤140737488355328):=Jh (by have h1:=XJ HWF.out (by omega) k (by omega);have h2:=HCL.out.1;have h3:=Xx (n:=l.length) (by omega);rw[List.length_append];omega)
        clear hln er
        cases hd:dlt k with
         | false =>
          have hcol:WF l k=Zc (Y8 l k):=by unfold WF;rw[hd];rfl
          have HCOL:=Lib.hid hcol
          clear hcol
          rw[hd] at c9
          clear hd
          go_wp2_with fail
          refine (Ui _ (Y8 l k) _ HNUM.out (by rw[HLN.out];omega) HCL.out.2).mono ?_
          rintro e w7 ⟨v7,rfl,hown7,b7⟩
          obtain ⟨⟨ua,un,uc⟩,w8,hr8,h8⟩:=R3.app (HR.out.below b7) (hown7.slice Z7) (by have:=HLEN.out;rw[HCOL.out] at this;exact this)
          rw[←HCOL.out,List.append_assoc,←Wz] at h8
          have HN:=Lib.hid h8
          clear h8 hown7 b7 HNUM hcell c9
          go_wp2_with (at_builtin;refine Lib.wpList_append_run _ rfl _ _ _ _ rfl _ _ rfl rfl _ _ hr8 ?_)
          go_roundg (21 - (k+1))
          case measure=>rw[HG.out];omega
          case rel=>exact ⟨k+1,⟨ua,un,uc⟩,rfl,by simp,rfl,by omega,HN⟩
         | true =>
          have hcol:WF l k=Zc (ZG (Y8 l k)):=by unfold WF;rw[hd];rfl
          have HCOL:=Lib.hid hcol
          clear hcol
          rw[hd] at c9
          clear hd
          go_wp2_with fail
          refine (Z3H _ (Y8 l k) _ HNUM.out (by rw[HLN.out];omega) HCL.out.2).mono ?_
          rintro e w7 ⟨v7,rfl,hown7,b7⟩
          obtain ⟨⟨ua,un,uc⟩,w8,hr8,h8⟩:=R3.app (HR.out.below b7) (hown7.slice Z7) (by have:=HLEN.out;rw[HCOL.out] at this;exact this)
          rw[←HCOL.out,List.append_assoc,←Wz] at h8
          have HN:=Lib.hid h8
          clear h8 hown7 b7 HNUM hcell c9
          go_wp2_with (at_builtin;refine Lib.wpList_append_run _ rfl _ _ _ _ rfl _ _ rfl rfl _ _ hr8 ?_)
          go_roundg (21 - (k+1))
          case measure=>rw[HG.out];omega
          case rel=>exact ⟨k+1,⟨ua,un,uc⟩,rfl,by simp,rfl,by omega,HN⟩
       ·obtain rfl:k=21:=by omega
        have hk1:¬ (21:Int)<21:=by omega
        have HO:Hid (R4 w wr (.slice ta tn tc) (Z5 l.length++ZN l 21++Yw l 0)):=Jh (by rw[show Yw l 0=[] from rfl,List.append_nil];exact ⟨HR.out.own,HR.out.bel⟩)
        clear hlt hk HR
        go_wp2_with fail
        go_loopg [74,6] 2 (fun g kv ov wx=>∃ (k:Nat) (s:Sl),g=2 - k∧kv=.int .i64 k∧ov=.slice s.a s.n s.cap∧k≤2∧Hid (R4 w wx (.slice s.a s.n s.cap) (Z5 l.length++ZN l 21++Yw l k)))
        case atStart=>exact ⟨0,⟨ta,tn,tc⟩,rfl,rfl,rfl,by omega,HO⟩
        case round =>
         clear HO
         obtain ⟨k,⟨ta,tn,tc⟩,hg,rfl,rfl,hk,HR⟩:=hrel
         dsimp only at HR ⊢
         have HG:=Lib.hid hg
         clear hg
         obtain ⟨w9,rfl⟩:∃ w9,w9=wr:=⟨_,rfl⟩
         obtain ⟨i0,hi,hy0,hy1,hy2⟩:=info_parts UF
         rcases (by omega:k=0∨k=1∨k=2) with rfl|rfl|rfl
         ·rw[show ((0:Nat):Int)=0 from rfl]
          clear hk
          go_wp2_with fail
          go_loopg [79,15] l.length (fun g kv bv wx=>∃ (j:Nat) (s:Sl),g=l.length - j∧kv=.int .i64 j∧bv=.slice s.a s.n s.cap∧j≤l.length∧Hid (Own btc 1 4 w9.heap.size wx (.slice s.a s.n s.cap) (Zr (l.take j) 0)∧Below w9.heap.size w9 wx))
          case atStart=>exact ⟨0,⟨none,0,0⟩,rfl,rfl,rfl,Nat.zero_le _,Lib.hid ⟨Own.nil,Below.refl _ _⟩⟩
          case round =>
           obtain ⟨j,⟨sa,sn,sc⟩,hg,rfl,rfl,hj,HI⟩:=hrel
           dsimp only at HI ⊢
           have HG2:=Lib.hid hg
           clear hg
           by_cases hlt:j<l.length
           ·have hk1:(j:Int)<(l.length:Int):=by omega
            obtain ⟨x,hx⟩:∃ x,l[j]?=some x:=⟨_,List.getElem?_eq_getElem hlt⟩
            have hsl:=HH.out.below (HR.out.bel.trans (HI.out.2.mono HR.out.bel.size))
            obtain ⟨b0,o0,rfl⟩:=hsl.some8 (by rintro rfl;simp at hlt)
            have HLD:=Jh (And.intro (Xc hsl hx) (Xz wr x))
            have HX:=Lib.hid hx
            have HOB:=Jh (OB.new wr x)
            clear hsl hx
            go_wp2_with (first|((with_reducible_and_instances refine Z9 (o:=⟨some 82,_,_,_,_,_⟩) (v:=.agg x.cells.toArray) ?_ ?_ ?_);rfl;exact Z8 rfl rfl HLD.out.1)|(refine Z2 (T:=68) rfl rfl rfl rfl HLD.out.2 ?_))
            refine (SH wr.heap.size 0 _).mono ?_
            rintro e w3 ⟨rfl,b3⟩
            have c9:w3.cell? ⟨wr.heap.size,22,none⟩=some (.bool (tru x 0)):=(HOB.out.below b3 (by simp)).cell rfl
            have HI2:=Jh ((HI.out.1.alloc (.cells x.cells.toArray 68)).below1 b3)
            have HB3:Hid (Below w9.heap.size w9 w3):=Jh ((HI.out.2.alloc HI.out.2.size _).trans (b3.mono (by have:=HI.out.2.size;simp;omega)))
            have HBD:Hid ((Zr (l.take j) 0).length+1≤maxLen∧((Zr (l.take j) 0).length+1)*1≤140737488355328):=Jh (by rw[Yz,List.length_take];unfold maxLen;omega)
            have hix:=(QP (some ⟨wr.heap.size,22,none⟩) (some ⟨wr.heap.size,25,none⟩) w3).1
            simp only[Nat.zero_add]
            clear b3 HLD HOB HI
            go_wp2_with (at_builtin;refine ZD rfl _ _ _ rfl i0 _ 1 Tryz.underlying75 hi hy0 hy1 hy2 rfl (by omega) ZX VC rfl (HI2.out.alloc _) (tru x 0) w3.heap.size 1 rfl (Um _ (tru x 0)) HBD.out.1 HBD.out.2 (by have:=HB3.out.size;simp;omega) ?_)
            intro v' w4 hown4 hx4 hn4
            rw[←Ty HX.out] at hown4
            obtain ⟨⟨ua,un,uc⟩,e4⟩:=hown4.sl
            dsimp only at e4
            subst e4
            have HN:Hid (Own btc 1 4 w9.heap.size w4 (.slice ua un uc) (Zr (l.take (j+1)) 0)∧Below w9.heap.size w9 w4):=Lib.hid ⟨hown4,Ext.new (HB3.out.alloc HB3.out.size _) hx4 (fun i hi _ e=>by have:=(HI2.out.blk i e).1;omega) (by have:=HB3.out.size;simp;omega)⟩
            clear hown4 hx4 hn4 c9 hix HI2 HB3
            go_wp2_with fail
            go_roundg (l.length - (j+1))
            case measure=>rw[HG2.out];omega
            case rel=>exact ⟨j+1,⟨ua,un,uc⟩,rfl,by simp,rfl,by omega,HN⟩
           ·obtain rfl:j=l.length:=by omega
            have hk1:¬ (l.length:Int)<(l.length:Int):=by omega
            have HBL:Hid (Z0 btc 1 wr (.slice sa sn sc) (Zr l 0)):=Jh (by have:=HI.out.1.slice ZX;rwa [List.take_length] at this)
            have HRR:Hid (R4 w wr (.slice ta tn tc) (Z5 l.length++ZN l 21++Yw l 0)):=Jh (HR.out.below HI.out.2 (Nat.le_refl _))
            have HLEN:Hid ((Z5 l.length++ZN l 21++Yw l 0).length+(Yu (Zr l 0)).length≤140737488355328):=Jh (by have h1:=XJ HWF.out (by omega) 21 (by omega);have h2:=WA (l:=Zr l 0) (by rw[Yz];omega);rw[Yz] at h2;have h3:=Xx (n:=l.length) (by omega);have h4:=Vb (l:=l) (by omega) 0;rw[List.length_append,List.length_append];omega)
            clear HI HR hlt hj
            go_wp2_with fail
            refine (Z0d _ (Zr l 0) _ HBL.out (by rw[Yz];omega)).mono ?_
            rintro e w7 ⟨v7,rfl,hown7,b7⟩
            obtain ⟨⟨ua,un,uc⟩,w8,hr8,h8,-⟩:=R4.app (HRR.out.below b7 (Nat.le_refl _)) (hown7.slice Z7) HLEN.out
            rw[List.append_assoc,←WB] at h8
            have HN:=Lib.hid h8
            clear h8 hown7 b7 HBL HRR HLEN
            go_wp2_with (at_builtin;refine Lib.wpList_append_run _ rfl _ _ _ _ rfl _ _ rfl rfl _ _ hr8 ?_)
            go_roundg (2 - (0+1))
            case measure=>rw[HG.out];omega
            case rel=>exact ⟨1,⟨ua,un,uc⟩,rfl,rfl,rfl,by omega,HN⟩
         ·rw[show ((1:Nat):Int)=1 from rfl]
          clear hk
          go_wp2_with fail
          go_loopg [79,15] l.length (fun g kv bv wx=>∃ (j:Nat) (s:Sl),g=l.length - j∧kv=.int .i64 j∧bv=.slice s.a s.n s.cap∧j≤l.length∧Hid (Own btc 1 4 w9.heap.size wx (.slice s.a s.n s.cap) (Zr (l.take j) 1)∧Below w9.heap.size w9 wx))
          case atStart=>exact ⟨0,⟨none,0,0⟩,rfl,rfl,rfl,Nat.zero_le _,Lib.hid ⟨Own.nil,Below.refl _ _⟩⟩
          case round =>
           obtain ⟨j,⟨sa,sn,sc⟩,hg,rfl,rfl,hj,HI⟩:=hrel
           dsimp only at HI ⊢
           have HG2:=Lib.hid hg
           clear hg
           by_cases hlt:j<l.length
           ·have hk1:(j:Int)<(l.length:Int):=by omega
            obtain ⟨x,hx⟩:∃ x,l[j]?=some x:=⟨_,List.getElem?_eq_getElem hlt⟩
            have hsl:=HH.out.below (HR.out.bel.trans (HI.out.2.mono HR.out.bel.size))
            obtain ⟨b0,o0,rfl⟩:=hsl.some8 (by rintro rfl;simp at hlt)
            have HLD:=Jh (And.intro (Xc hsl hx) (Xz wr x))
            have HX:=Lib.hid hx
            have HOB:=Jh (OB.new wr x)
            clear hsl hx
            go_wp2_with (first|((with_reducible_and_instances refine Z9 (o:=⟨some 82,_,_,_,_,_⟩) (v:=.agg x.cells.toArray) ?_ ?_ ?_);rfl;exact Z8 rfl rfl HLD.out.1)|(refine Z2 (T:=68) rfl rfl rfl rfl HLD.out.2 ?_))
            refine (SH wr.heap.size 0 _).mono ?_
            rintro e w3 ⟨rfl,b3⟩
            have c9:w3.cell? ⟨wr.heap.size,25,none⟩=some (.bool (tru x 1)):=(HOB.out.below b3 (by simp)).cell rfl
            have HI2:=Jh ((HI.out.1.alloc (.cells x.cells.toArray 68)).below1 b3)
            have HB3:Hid (Below w9.heap.size w9 w3):=Jh ((HI.out.2.alloc HI.out.2.size _).trans (b3.mono (by have:=HI.out.2.size;simp;omega)))
            have HBD:Hid ((Zr (l.take j) 1).length+1≤maxLen∧((Zr (l.take j) 1).length+1)*1≤140737488355328):=Jh (by rw[Yz,List.length_take];unfold maxLen;omega)
            have hix:=(QP (some ⟨wr.heap.size,22,none⟩) (some ⟨wr.heap.size,25,none⟩) w3).2
            simp only[Nat.zero_add]
            clear b3 HLD HOB HI
            go_wp2_with (at_builtin;refine ZD rfl _ _ _ rfl i0 _ 1 Tryz.underlying75 hi hy0 hy1 hy2 rfl (by omega) ZX VC rfl (HI2.out.alloc _) (tru x 1) w3.heap.size 1 rfl (Um _ (tru x 1)) HBD.out.1 HBD.out.2 (by have:=HB3.out.size;simp;omega) ?_)
            intro v' w4 hown4 hx4 hn4
            rw[←Ty HX.out] at hown4
            obtain ⟨⟨ua,un,uc⟩,e4⟩:=hown4.sl
            dsimp only at e4
            subst e4
            have HN:Hid (Own btc 1 4 w9.heap.size w4 (.slice ua un uc) (Zr (l.take (j+1)) 1)∧Below w9.heap.size w9 w4):=Lib.hid ⟨hown4,Ext.new (HB3.out.alloc HB3.out.size _) hx4 (fun i hi _ e=>by have:=(HI2.out.blk i e).1;omega) (by have:=HB3.out.size;simp;omega)⟩
            clear hown4 hx4 hn4 c9 hix HI2 HB3
            go_wp2_with fail
            go_roundg (l.length - (j+1))
            case measure=>rw[HG2.out];omega
            case rel=>exact ⟨j+1,⟨ua,un,uc⟩,rfl,by simp,rfl,by omega,HN⟩
           ·obtain rfl:j=l.length:=by omega
            have hk1:¬ (l.length:Int)<(l.length:Int):=by omega
            have HBL:Hid (Z0 btc 1 wr (.slice sa sn sc) (Zr l 1)):=Jh (by have:=HI.out.1.slice ZX;rwa [List.take_length] at this)
            have HRR:Hid (R4 w wr (.slice ta tn tc) (Z5 l.length++ZN l 21++Yw l 1)):=Jh (HR.out.below HI.out.2 (Nat.le_refl _))
            have HLEN:Hid ((Z5 l.length++ZN l 21++Yw l 1).length+(Yu (Zr l 1)).length≤140737488355328):=Jh (by have h1:=XJ HWF.out (by omega) 21 (by omega);have h2:=WA (l:=Zr l 1) (by rw[Yz];omega);rw[Yz] at h2;have h3:=Xx (n:=l.length) (by omega);have h4:=Vb (l:=l) (by omega) 1;rw[List.length_append,List.length_append];omega)
            clear HI HR hlt hj
            go_wp2_with fail
            refine (Z0d _ (Zr l 1) _ HBL.out (by rw[Yz];omega)).mono ?_
            rintro e w7 ⟨v7,rfl,hown7,b7⟩
            obtain ⟨⟨ua,un,uc⟩,w8,hr8,h8,-⟩:=R4.app (HRR.out.below b7 (Nat.le_refl _)) (hown7.slice Z7) HLEN.out
            rw[List.append_assoc,←WB] at h8
            have HN:=Lib.hid h8
            clear h8 hown7 b7 HBL HRR HLEN
            go_wp2_with (at_builtin;refine Lib.wpList_append_run _ rfl _ _ _ _ rfl _ _ rfl rfl _ _ hr8 ?_)
            go_roundg (2 - (1+1))
            case measure=>rw[HG.out];omega
            case rel=>exact ⟨2,⟨ua,un,uc⟩,rfl,rfl,rfl,by omega,HN⟩
         ·rw[show ((2:Nat):Int)=2 from rfl]
          clear hk hi hy0 hy1 hy2
          have HO:Hid (R4 w w9 (.slice ta tn tc) (Z5 l.length++ZN l 21++Yw l 2++X9 l 0)):=Jh (by rw[show X9 l 0=[] from rfl,List.append_nil];exact HR.out)
          clear HR
          go_wp2_with fail
          go_loopg [97,6] 3 (fun g kv ov wx=>∃ (k:Nat) (s:Sl),g=3 - k∧kv=.int .i64 k∧ov=.slice s.a s.n s.cap∧k≤3∧Hid (R4 w wx (.slice s.a s.n s.cap) (Z5 l.length++ZN l 21++Yw l 2++X9 l k)))
          case atStart=>exact ⟨0,⟨ta,tn,tc⟩,rfl,rfl,rfl,by omega,HO⟩
          case round =>
           clear HO
           obtain ⟨k,⟨ta,tn,tc⟩,hg,rfl,rfl,hk,HR⟩:=hrel
           dsimp only at HR ⊢
           have HG:=Lib.hid hg
           clear hg
           obtain ⟨w9,rfl⟩:∃ w9,w9=wr:=⟨_,rfl⟩
           obtain ⟨i0,hi,hy0,hy1,hy2⟩:=info_parts Wa
           rcases (by omega:k=0∨k=1∨k=2∨k=3) with rfl|rfl|rfl|rfl
           ·rw[show ((0:Nat):Int)=0 from rfl]
            clear hk
            go_wp2_with fail
            go_loopg [102,19,20] l.length (fun g kv nv av wx=>∃ (j:Nat) (s r:Sl),g=l.length - j∧kv=.int .i64 j∧nv=.slice s.a s.n s.cap∧av=.slice r.a r.n r.cap∧j≤l.length∧Hid (Own Zh 1 3 w9.heap.size wx (.slice s.a s.n s.cap) (Zw (l.take j) 0)∧Own u8c 1 5 w9.heap.size wx (.slice r.a r.n r.cap) (ZC (l.take j) 0)∧Below w9.heap.size w9 wx))
            case atStart=>exact ⟨0,⟨none,0,0⟩,⟨none,0,0⟩,rfl,rfl,rfl,rfl,Nat.zero_le _,Lib.hid ⟨Own.nil,Own.nil,Below.refl _ _⟩⟩
            case round =>
             obtain ⟨j,⟨sa,sn,sc⟩,⟨ra,rn,rc⟩,hg,rfl,rfl,rfl,hj,HI⟩:=hrel
             dsimp only at HI ⊢
             have HG2:=Lib.hid hg
             clear hg
             by_cases hlt:j<l.length
             ·have hk1:(j:Int)<(l.length:Int):=by omega
              obtain ⟨x,hx⟩:∃ x,l[j]?=some x:=⟨_,List.getElem?_eq_getElem hlt⟩
              have hsl:=HH.out.below (HR.out.bel.trans (HI.out.2.2.mono HR.out.bel.size))
              obtain ⟨b0,o0,rfl⟩:=hsl.some8 (by rintro rfl;simp at hlt)
              have HLD:=Jh (And.intro (Xc hsl hx) (Xz wr x))
              have HX:=Lib.hid hx
              have HOB:=Jh (OB.new wr x)
              have HTX:=Jh (OpD.right_txt (HALL.out x (List.mem_of_getElem? hx)) 0)
              have HCT:Hid ((ZC (l.take j) 0).length≤12800):=Jh (by have:=WE (l:=l.take j) (fun y hy=>HALL.out y (List.mem_of_mem_take hy)) 0;rw[List.length_take] at this;omega)
              clear hsl hx
              go_wp2_with (first|((with_reducible_and_instances refine Z9 (o:=⟨some 105,_,_,_,_,_⟩) (v:=.agg x.cells.toArray) ?_ ?_ ?_);rfl;exact Z8 rfl rfl HLD.out.1)|(refine Z2 (T:=68) rfl rfl rfl rfl HLD.out.2 ?_))
              refine (Tn wr.heap.size 0 _).mono ?_
              rintro e w3 ⟨rfl,b3⟩
              obtain ⟨T,hT⟩:=Je (txt x 0)
              have c9:w3.cell? ⟨wr.heap.size,17,none⟩=some (.string T):=by rw[←hT];exact (HOB.out.below b3 (by simp)).cell rfl
              have HI2:=Jh ((HI.out.1.alloc (.cells x.cells.toArray 68)).below1 b3)
              have HA2:=Jh ((HI.out.2.1.alloc (.cells x.cells.toArray 68)).below1 b3)
              have HB3:Hid (Below w9.heap.size w9 w3):=Jh ((HI.out.2.2.alloc HI.out.2.2.size _).trans (b3.mono (by have:=HI.out.2.2.size;simp;omega)))
              have HBD:Hid ((Zw (l.take j) 0).length+1≤maxLen∧((Zw (l.take j) 0).length+1)*8≤140737488355328):=Jh (by rw[Wb,List.length_take];unfold maxLen;omega)
              have hix:=(Sp (some ⟨wr.heap.size,17,none⟩) (some ⟨wr.heap.size,18,none⟩) (some ⟨wr.heap.size,19,none⟩) w3).1
              have htl:T.size≤64:=by rw[←hT];exact HTX.out
              have HT:=Lib.hid hT
              simp only[Nat.zero_add]
              clear b3 HLD HOB HI hT
              go_wp2_with (at_builtin;refine ZD rfl _ _ _ rfl i0 _ 8 Tryz.underlying100 hi hy0 hy1 hy2 rfl (by omega) Zg XF rfl (HI2.out.alloc _) (T.size:Int) w3.heap.size 1 rfl (Wm _ (T.size:Int)) HBD.out.1 HBD.out.2 (by have:=HB3.out.size;simp;omega) ?_)
              intro v' w4 hown4 hx4 hn4
              rw[←HT.out,←Tl HX.out] at hown4
              obtain ⟨⟨ua,un,uc⟩,e4⟩:=hown4.sl
              dsimp only at e4
              subst e4
              have HA4:=Jh ((HA2.out.alloc (.cells #[.int .i64 (T.size:Int)] 3)).ext hx4 (fun b hb e=>by
               obtain ⟨c1,h1⟩:=(HA2.out.alloc (.cells #[.int .i64 (T.size:Int)] 3)).tag hb
               obtain ⟨c2,h2⟩:=(HI2.out.alloc (.cells #[.int .i64 (T.size:Int)] 3)).tag e
               rw[h1] at h2
               cases h2))
              have HB4:Hid (Below w9.heap.size w9 w4):=Jh (Ext.new (HB3.out.alloc HB3.out.size _) hx4 (fun i hi _ e=>by have:=(HI2.out.blk i e).1;omega) (by have:=HB3.out.size;simp;omega))
              obtain ⟨⟨qa,qn,qc⟩,w5x,hr5,hown5,hx5⟩:=Ux HA4.out T HB4.out.size (by have:=HCT.out;omega)
              rw[←HT.out,←Ts HX.out] at hown5
              have HN:Hid (Own Zh 1 3 w9.heap.size w5x (.slice ua un uc) (Zw (l.take (j+1)) 0)∧Own u8c 1 5 w9.heap.size w5x (.slice qa qn qc) (ZC (l.take (j+1)) 0)∧Below w9.heap.size w9 w5x):=Lib.hid ⟨hown4.ext hx5 (fun b hb e=>by
               obtain ⟨c1,h1⟩:=hown4.tag hb
               obtain ⟨c2,h2⟩:=HA4.out.tag e
               rw[h1] at h2
               cases h2),hown5,Ext.new HB4.out hx5 (fun i hi _ e=>by have:=(HA4.out.blk i e).1;omega) HB4.out.size⟩
              clear hown4 hown5 hx4 hx5 hn4 c9 hix HI2 HB3 HA2 HA4 HB4
              go_wp2_with (at_builtin;refine Lib.wpList_append_run _ rfl _ _ _ _ rfl _ _ rfl rfl _ _ hr5 ?_)
              go_roundg (l.length - (j+1))
              case measure=>rw[HG2.out];omega
              case rel=>exact ⟨j+1,⟨ua,un,uc⟩,⟨qa,qn,qc⟩,rfl,by simp,rfl,rfl,by omega,HN⟩
             ·obtain rfl:j=l.length:=by omega
              have hk1:¬ (l.length:Int)<(l.length:Int):=by omega
              have HBL:Hid (Z0 Zh 1 wr (.slice sa sn sc) (Zw l 0)∧Own u8c 1 5 w9.heap.size wr (.slice ra rn rc) (ZC l 0)):=Jh (by have h1:=HI.out.1.slice Zg;have h2:=HI.out.2.1;rw[List.take_length] at h1 h2;exact ⟨h1,h2⟩)
              have HRR:Hid (R4 w wr (.slice ta tn tc) (Z5 l.length++ZN l 21++Yw l 2++X9 l 0)):=Jh (HR.out.below HI.out.2.2 (Nat.le_refl _))
              have HLEN:Hid ((Z5 l.length++ZN l 21++Yw l 2++X9 l 0).length+(Zc (Zw l 0)).length+(ZC l 0).length≤140737488355328):=Jh (by have h1:=XJ HWF.out (by omega) 21 (by omega);have h2:=Vb (l:=l) (by omega) 2;have h3:=Xx (n:=l.length) (by omega);have h4:=Uh HALL.out (by omega) 0;have h5:=UN HALL.out (by omega) 0;have h6:=WE HALL.out 0;rw[List.length_append,List.length_append,List.length_append];omega)
              have HAP:Hid (∀ b,(Value.slice ra rn rc).ownBlock=some b→(Value.slice ta tn tc).ownBlock=some b→False):=Jh (fun b h1 h2=>by have h3:=(HBL.out.2.blk b h1).1;have h4:=(HR.out.own.blk b h2).2;omega)
              clear HI HR hlt hj
              go_wp2_with fail
              refine (Ui _ (Zw l 0) _ HBL.out.1 (by rw[Wb];omega) (UD HALL.out 0)).mono ?_
              rintro e w7 ⟨v7,rfl,hown7,b7⟩
              obtain ⟨⟨ua,un,uc⟩,w8,hr8,h8,hx8⟩:=R4.app (HRR.out.below b7 (Nat.le_refl _)) (hown7.slice Z7) (by have:=HLEN.out;omega)
              obtain ⟨⟨za,zn,zc⟩,w10,hr10,h10,-⟩:=R4.app h8 (((HBL.out.2.below1 b7).ext hx8 (fun b hb e=>HAP.out b hb e)).slice Z7) (by have:=HLEN.out;rw[List.length_append];omega)
              rw[List.append_assoc,List.append_assoc,←XW] at h10
              have HN:=Lib.hid h10
              clear h8 h10 hx8 hown7 b7 HBL HRR HLEN HAP
              go_wp2_with (at_builtin;first|(refine Lib.wpList_append_run _ rfl _ _ _ _ rfl _ _ rfl rfl _ _ hr8 ?_)|(refine Lib.wpList_append_run _ rfl _ _ _ _ rfl _ _ rfl rfl _ _ hr10 ?_))
              go_roundg (3 - (0+1))
              case measure=>rw[HG.out];omega
              case rel=>exact ⟨1,⟨za,zn,zc⟩,rfl,rfl,rfl,by omega,HN⟩
           ·rw[show ((1:Nat):Int)=1 from rfl]
            clear hk
            go_wp2_with fail
            go_loopg [102,19,20] l.length (fun g kv nv av wx=>∃ (j:Nat) (s r:Sl),g=l.length - j∧kv=.int .i64 j∧nv=.slice s.a s.n s.cap∧av=.slice r.a r.n r.cap∧j≤l.length∧Hid (Own Zh 1 3 w9.heap.size wx (.slice s.a s.n s.cap) (Zw (l.take j) 1)∧Own u8c 1 5 w9.heap.size wx (.slice r.a r.n r.cap) (ZC (l.take j) 1)∧Below w9.heap.size w9 wx))
            case atStart=>exact ⟨0,⟨none,0,0⟩,⟨none,0,0⟩,rfl,rfl,rfl,rfl,Nat.zero_le _,Lib.hid ⟨Own.nil,Own.nil,Below.refl _ _⟩⟩
            case round =>
             obtain ⟨j,⟨sa,sn,sc⟩,⟨ra,rn,rc⟩,hg,rfl,rfl,rfl,hj,HI⟩:=hrel
             dsimp only at HI ⊢
             have HG2:=Lib.hid hg
             clear hg
             by_cases hlt:j<l.length
             ·have hk1:(j:Int)<(l.length:Int):=by omega
              obtain ⟨x,hx⟩:∃ x,l[j]?=some x:=⟨_,List.getElem?_eq_getElem hlt⟩
              have hsl:=HH.out.below (HR.out.bel.trans (HI.out.2.2.mono HR.out.bel.size))
              obtain ⟨b0,o0,rfl⟩:=hsl.some8 (by rintro rfl;simp at hlt)
              have HLD:=Jh (And.intro (Xc hsl hx) (Xz wr x))
              have HX:=Lib.hid hx
              have HOB:=Jh (OB.new wr x)
              have HTX:=Jh (OpD.right_txt (HALL.out x (List.mem_of_getElem? hx)) 1)
              have HCT:Hid ((ZC (l.take j) 1).length≤12800):=Jh (by have:=WE (l:=l.take j) (fun y hy=>HALL.out y (List.mem_of_mem_take hy)) 1;rw[List.length_take] at this;omega)
              clear hsl hx
              go_wp2_with (first|((with_reducible_and_instances refine Z9 (o:=⟨some 105,_,_,_,_,_⟩) (v:=.agg x.cells.toArray) ?_ ?_ ?_);rfl;exact Z8 rfl rfl HLD.out.1)|(refine Z2 (T:=68) rfl rfl rfl rfl HLD.out.2 ?_))
              refine (Tn wr.heap.size 0 _).mono ?_
              rintro e w3 ⟨rfl,b3⟩
              obtain ⟨T,hT⟩:=Je (txt x 1)
              have c9:w3.cell? ⟨wr.heap.size,18,none⟩=some (.string T):=by rw[←hT];exact (HOB.out.below b3 (by simp)).cell rfl
              have HI2:=Jh ((HI.out.1.alloc (.cells x.cells.toArray 68)).below1 b3)
              have HA2:=Jh ((HI.out.2.1.alloc (.cells x.cells.toArray 68)).below1 b3)
              have HB3:Hid (Below w9.heap.size w9 w3):=Jh ((HI.out.2.2.alloc HI.out.2.2.size _).trans (b3.mono (by have:=HI.out.2.2.size;simp;omega)))
              have HBD:Hid ((Zw (l.take j) 1).length+1≤maxLen∧((Zw (l.take j) 1).length+1)*8≤140737488355328):=Jh (by rw[Wb,List.length_take];unfold maxLen;omega)
              have hix:=(Sp (some ⟨wr.heap.size,17,none⟩) (some ⟨wr.heap.size,18,none⟩) (some ⟨wr.heap.size,19,none⟩) w3).2.1
              have htl:T.size≤64:=by rw[←hT];exact HTX.out
              have HT:=Lib.hid hT
              simp only[Nat.zero_add]
              clear b3 HLD HOB HI hT
              go_wp2_with (at_builtin;refine ZD rfl _ _ _ rfl i0 _ 8 Tryz.underlying100 hi hy0 hy1 hy2 rfl (by omega) Zg XF rfl (HI2.out.alloc _) (T.size:Int) w3.heap.size 1 rfl (Wm _ (T.size:Int)) HBD.out.1 HBD.out.2 (by have:=HB3.out.size;simp;omega) ?_)
              intro v' w4 hown4 hx4 hn4
              rw[←HT.out,←Tl HX.out] at hown4
              obtain ⟨⟨ua,un,uc⟩,e4⟩:=hown4.sl
              dsimp only at e4
              subst e4
              have HA4:=Jh ((HA2.out.alloc (.cells #[.int .i64 (T.size:Int)] 3)).ext hx4 (fun b hb e=>by
               obtain ⟨c1,h1⟩:=(HA2.out.alloc (.cells #[.int .i64 (T.size:Int)] 3)).tag hb
               obtain ⟨c2,h2⟩:=(HI2.out.alloc (.cells #[.int .i64 (T.size:Int)] 3)).tag e
               rw[h1] at h2
               cases h2))
              have HB4:Hid (Below w9.heap.size w9 w4):=Jh (Ext.new (HB3.out.alloc HB3.out.size _) hx4 (fun i hi _ e=>by have:=(HI2.out.blk i e).1;omega) (by have:=HB3.out.size;simp;omega))
              obtain ⟨⟨qa,qn,qc⟩,w5x,hr5,hown5,hx5⟩:=Ux HA4.out T HB4.out.size (by have:=HCT.out;omega)
              rw[←HT.out,←Ts HX.out] at hown5
              have HN:Hid (Own Zh 1 3 w9.heap.size w5x (.slice ua un uc) (Zw (l.take (j+1)) 1)∧Own u8c 1 5 w9.heap.size w5x (.slice qa qn qc) (ZC (l.take (j+1)) 1)∧Below w9.heap.size w9 w5x):=Lib.hid ⟨hown4.ext hx5 (fun b hb e=>by
               obtain ⟨c1,h1⟩:=hown4.tag hb
               obtain ⟨c2,h2⟩:=HA4.out.tag e
               rw[h1] at h2
               cases h2),hown5,Ext.new HB4.out hx5 (fun i hi _ e=>by have:=(HA4.out.blk i e).1;omega) HB4.out.size⟩
              clear hown4 hown5 hx4 hx5 hn4 c9 hix HI2 HB3 HA2 HA4 HB4
              go_wp2_with (at_builtin;refine Lib.wpList_append_run _ rfl _ _ _ _ rfl _ _ rfl rfl _ _ hr5 ?_)
              go_roundg (l.length - (j+1))
              case measure=>rw[HG2.out];omega
              case rel=>exact ⟨j+1,⟨ua,un,uc⟩,⟨qa,qn,qc⟩,rfl,by simp,rfl,rfl,by omega,HN⟩
             ·obtain rfl:j=l.length:=by omega
              have hk1:¬ (l.length:Int)<(l.length:Int):=by omega
              have HBL:Hid (Z0 Zh 1 wr (.slice sa sn sc) (Zw l 1)∧Own u8c 1 5 w9.heap.size wr (.slice ra rn rc) (ZC l 1)):=Jh (by have h1:=HI.out.1.slice Zg;have h2:=HI.out.2.1;rw[List.take_length] at h1 h2;exact ⟨h1,h2⟩)
              have HRR:Hid (R4 w wr (.slice ta tn tc) (Z5 l.length++ZN l 21++Yw l 2++X9 l 1)):=Jh (HR.out.below HI.out.2.2 (Nat.le_refl _))
              have HLEN:Hid ((Z5 l.length++ZN l 21++Yw l 2++X9 l 1).length+(Zc (Zw l 1)).length+(ZC l 1).length≤140737488355328):=Jh (by have h1:=XJ HWF.out (by omega) 21 (by omega);have h2:=Vb (l:=l) (by omega) 2;have h3:=Xx (n:=l.length) (by omega);have h4:=Uh HALL.out (by omega) 1;have h5:=UN HALL.out (by omega) 1;have h6:=WE HALL.out 1;rw[List.length_append,List.length_append,List.length_append];omega)
              have HAP:Hid (∀ b,(Value.slice ra rn rc).ownBlock=some b→(Value.slice ta tn tc).ownBlock=some b→False):=Jh (fun b h1 h2=>by have h3:=(HBL.out.2.blk b h1).1;have h4:=(HR.out.own.blk b h2).2;omega)
              clear HI HR hlt hj
              go_wp2_with fail
              refine (Ui _ (Zw l 1) _ HBL.out.1 (by rw[Wb];omega) (UD HALL.out 1)).mono ?_
              rintro e w7 ⟨v7,rfl,hown7,b7⟩
              obtain ⟨⟨ua,un,uc⟩,w8,hr8,h8,hx8⟩:=R4.app (HRR.out.below b7 (Nat.le_refl _)) (hown7.slice Z7) (by have:=HLEN.out;omega)
              obtain ⟨⟨za,zn,zc⟩,w10,hr10,h10,-⟩:=R4.app h8 (((HBL.out.2.below1 b7).ext hx8 (fun b hb e=>HAP.out b hb e)).slice Z7) (by have:=HLEN.out;rw[List.length_append];omega)
              rw[List.append_assoc,List.append_assoc,←XW] at h10
              have HN:=Lib.hid h10
              clear h8 h10 hx8 hown7 b7 HBL HRR HLEN HAP
              go_wp2_with (at_builtin;first|(refine Lib.wpList_append_run _ rfl _ _ _ _ rfl _ _ rfl rfl _ _ hr8 ?_)|(refine Lib.wpList_append_run _ rfl _ _ _ _ rfl _ _ rfl rfl _ _ hr10 ?_))
              go_roundg (3 - (1+1))
              case measure=>rw[HG.out];omega
              case rel=>exact ⟨2,⟨za,zn,zc⟩,rfl,rfl,rfl,by omega,HN⟩
           ·rw[show ((2:Nat):Int)=2 from rfl]
            clear hk
            go_wp2_with fail
            go_loopg [102,19,20] l.length (fun g kv nv av wx=>∃ (j:Nat) (s r:Sl),g=l.length - j∧kv=.int .i64 j∧nv=.slice s.a s.n s.cap∧av=.slice r.a r.n r.cap∧j≤l.length∧Hid (Own Zh 1 3 w9.heap.size wx (.slice s.a s.n s.cap) (Zw (l.take j) 2)∧Own u8c 1 5 w9.heap.size wx (.slice r.a r.n r.cap) (ZC (l.take j) 2)∧Below w9.heap.size w9 wx))
            case atStart=>exact ⟨0,⟨none,0,0⟩,⟨none,0,0⟩,rfl,rfl,rfl,rfl,Nat.zero_le _,Lib.hid ⟨Own.nil,Own.nil,Below.refl _ _⟩⟩
            case round =>
             obtain ⟨j,⟨sa,sn,sc⟩,⟨ra,rn,rc⟩,hg,rfl,rfl,rfl,hj,HI⟩:=hrel
             dsimp only at HI ⊢
             have HG2:=Lib.hid hg
             clear hg
             by_cases hlt:j<l.length
             ·have hk1:(j:Int)<(l.length:Int):=by omega
              obtain ⟨x,hx⟩:∃ x,l[j]?=some x:=⟨_,List.getElem?_eq_getElem hlt⟩
              have hsl:=HH.out.below (HR.out.bel.trans (HI.out.2.2.mono HR.out.bel.size))
              obtain ⟨b0,o0,rfl⟩:=hsl.some8 (by rintro rfl;simp at hlt)
              have HLD:=Jh (And.intro (Xc hsl hx) (Xz wr x))
              have HX:=Lib.hid hx
              have HOB:=Jh (OB.new wr x)
              have HTX:=Jh (OpD.right_txt (HALL.out x (List.mem_of_getElem? hx)) 2)
              have HCT:Hid ((ZC (l.take j) 2).length≤12800):=Jh (by have:=WE (l:=l.take j) (fun y hy=>HALL.out y (List.mem_of_mem_take hy)) 2;rw[List.length_take] at this;omega)
              clear hsl hx
              go_wp2_with (first|((with_reducible_and_instances refine Z9 (o:=⟨some 105,_,_,_,_,_⟩) (v:=.agg x.cells.toArray) ?_ ?_ ?_);rfl;exact Z8 rfl rfl HLD.out.1)|(refine Z2 (T:=68) rfl rfl rfl rfl HLD.out.2 ?_))
              refine (Tn wr.heap.size 0 _).mono ?_
              rintro e w3 ⟨rfl,b3⟩
              obtain ⟨T,hT⟩:=Je (txt x 2)
              have c9:w3.cell? ⟨wr.heap.size,19,none⟩=some (.string T):=by rw[←hT];exact (HOB.out.below b3 (by simp)).cell rfl
              have HI2:=Jh ((HI.out.1.alloc (.cells x.cells.toArray 68)).below1 b3)
              have HA2:=Jh ((HI.out.2.1.alloc (.cells x.cells.toArray 68)).below1 b3)
              have HB3:Hid (Below w9.heap.size w9 w3):=Jh ((HI.out.2.2.alloc HI.out.2.2.size _).trans (b3.mono (by have:=HI.out.2.2.size;simp;omega)))
              have HBD:Hid ((Zw (l.take j) 2).length+1≤maxLen∧((Zw (l.take j) 2).length+1)*8≤140737488355328):=Jh (by rw[Wb,List.length_take];unfold maxLen;omega)
              have hix:=(Sp (some ⟨wr.heap.size,17,none⟩) (some ⟨wr.heap.size,18,none⟩) (some ⟨wr.heap.size,19,none⟩) w3).2.2
              have htl:T.size≤64:=by rw[←hT];exact HTX.out
              have HT:=Lib.hid hT
              simp only[Nat.zero_add]
              clear b3 HLD HOB HI hT
              go_wp2_with (at_builtin;refine ZD rfl _ _ _ rfl i0 _ 8 Tryz.underlying100 hi hy0 hy1 hy2 rfl (by omega) Zg XF rfl (HI2.out.alloc _) (T.size:Int) w3.heap.size 1 rfl (Wm _ (T.size:Int)) HBD.out.1 HBD.out.2 (by have:=HB3.out.size;simp;omega) ?_)
              intro v' w4 hown4 hx4 hn4
              rw[←HT.out,←Tl HX.out] at hown4
              obtain ⟨⟨ua,un,uc⟩,e4⟩:=hown4.sl
              dsimp only at e4
              subst e4
              have HA4:=Jh ((HA2.out.alloc (.cells #[.int .i64 (T.size:Int)] 3)).ext hx4 (fun b hb e=>by
               obtain ⟨c1,h1⟩:=(HA2.out.alloc (.cells #[.int .i64 (T.size:Int)] 3)).tag hb
               obtain ⟨c2,h2⟩:=(HI2.out.alloc (.cells #[.int .i64 (T.size:Int)] 3)).tag e
               rw[h1] at h2
               cases h2))
              have HB4:Hid (Below w9.heap.size w9 w4):=Jh (Ext.new (HB3.out.alloc HB3.out.size _) hx4 (fun i hi _ e=>by have:=(HI2.out.blk i e).1;omega) (by have:=HB3.out.size;simp;omega))
              obtain ⟨⟨qa,qn,qc⟩,w5x,hr5,hown5,hx5⟩:=Ux HA4.out T HB4.out.size (by have:=HCT.out;omega)
              rw[←HT.out,←Ts HX.out] at hown5
              have HN:Hid (Own Zh 1 3 w9.heap.size w5x (.slice ua un uc) (Zw (l.take (j+1)) 2)∧Own u8c 1 5 w9.heap.size w5x (.slice qa qn qc) (ZC (l.take (j+1)) 2)∧Below w9.heap.size w9 w5x):=Lib.hid ⟨hown4.ext hx5 (fun b hb e=>by
               obtain ⟨c1,h1⟩:=hown4.tag hb
               obtain ⟨c2,h2⟩:=HA4.out.tag e
               rw[h1] at h2
               cases h2),hown5,Ext.new HB4.out hx5 (fun i hi _ e=>by have:=(HA4.out.blk i e).1;omega) HB4.out.size⟩
              clear hown4 hown5 hx4 hx5 hn4 c9 hix HI2 HB3 HA2 HA4 HB4
              go_wp2_with (at_builtin;refine Lib.wpList_append_run _ rfl _ _ _ _ rfl _ _ rfl rfl _ _ hr5 ?_)
              go_roundg (l.length - (j+1))
              case measure=>rw[HG2.out];omega
              case rel=>exact ⟨j+1,⟨ua,un,uc⟩,⟨qa,qn,qc⟩,rfl,by simp,rfl,rfl,by omega,HN⟩
             ·obtain rfl:j=l.length:=by omega
              have hk1:¬ (l.length:Int)<(l.length:Int):=by omega
              have HBL:Hid (Z0 Zh 1 wr (.slice sa sn sc) (Zw l 2)∧Own u8c 1 5 w9.heap.size wr (.slice ra rn rc) (ZC l 2)):=Jh (by have h1:=HI.out.1.slice Zg;have h2:=HI.out.2.1;rw[List.take_length] at h1 h2;exact ⟨h1,h2⟩)
              have HRR:Hid (R4 w wr (.slice ta tn tc) (Z5 l.length++ZN l 21++Yw l 2++X9 l 2)):=Jh (HR.out.below HI.out.2.2 (Nat.le_refl _))
              have HLEN:Hid ((Z5 l.length++ZN l 21++Yw l 2++X9 l 2).length+(Zc (Zw l 2)).length+(ZC l 2).length≤140737488355328):=Jh (by have h1:=XJ HWF.out (by omega) 21 (by omega);have h2:=Vb (l:=l) (by omega) 2;have h3:=Xx (n:=l.length) (by omega);have h4:=Uh HALL.out (by omega) 2;have h5:=UN HALL.out (by omega) 2;have h6:=WE HALL.out 2;rw[List.length_append,List.length_append,List.length_append];omega)
              have HAP:Hid (∀ b,(Value.slice ra rn rc).ownBlock=some b→(Value.slice ta tn tc).ownBlock=some b→False):=Jh (fun b h1 h2=>by have h3:=(HBL.out.2.blk b h1).1;have h4:=(HR.out.own.blk b h2).2;omega)
              clear HI HR hlt hj
              go_wp2_with fail
              refine (Ui _ (Zw l 2) _ HBL.out.1 (by rw[Wb];omega) (UD HALL.out 2)).mono ?_
              rintro e w7 ⟨v7,rfl,hown7,b7⟩
              obtain ⟨⟨ua,un,uc⟩,w8,hr8,h8,hx8⟩:=R4.app (HRR.out.below b7 (Nat.le_refl _)) (hown7.slice Z7) (by have:=HLEN.out;omega)
              obtain ⟨⟨za,zn,zc⟩,w10,hr10,h10,-⟩:=R4.app h8 (((HBL.out.2.below1 b7).ext hx8 (fun b hb e=>HAP.out b hb e)).slice Z7) (by have:=HLEN.out;rw[List.length_append];omega)
              rw[List.append_assoc,List.append_assoc,←XW] at h10
              have HN:=Lib.hid h10
              clear h8 h10 hx8 hown7 b7 HBL HRR HLEN HAP
              go_wp2_with (at_builtin;first|(refine Lib.wpList_append_run _ rfl _ _ _ _ rfl _ _ rfl rfl _ _ hr8 ?_)|(refine Lib.wpList_append_run _ rfl _ _ _ _ rfl _ _ rfl rfl _ _ hr10 ?_))
              go_roundg (3 - (2+1))
              case measure=>rw[HG.out];omega
              case rel=>exact ⟨3,⟨za,zn,zc⟩,rfl,rfl,rfl,by omega,HN⟩
           ·rw[show ((3:Nat):Int)=3 from rfl]
            clear hk hi hy0 hy1 hy2
            go_wp2_with fail
            go_ret2
            exact .inl ⟨by omega,HALL.out,_,rfl,HR.out.own,HR.out.bel⟩
end Go.Proofs.YtgmdimbiipemhaaGreatDoor
