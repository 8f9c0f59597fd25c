/- ViewKinds, part 16 of what the proof leans on (made short by a program). -/
import Derived.Test.YtlgipkemoldckaaGreatDoorVkZ15
set_option linter.unusedSimpArgs false
set_option linter.unusedVariables false
set_option linter.unusedSectionVars false
set_option maxRecDepth 20000
set_option maxHeartbeats 30000000
namespace Go.Proofs.YtlgipkemoldckaaGreatDoor
open Go.RowKit
theorem Sr {P:Program} {ops:Array Oper} {Q:Exit→Act→World→Prop} {i:Nat} {o:Oper} {d:Option Tmp} {f:FuncId} {args:Array Value} {K:Act→World→Prop} {a:Act} {w w':World} (ho:ops[i]?=some o) (hd:o.dst=d) (hw:Region.wanted o (yielded ops a.tmps)=true)
  (hv:(execOp a.eval o).run P w=.ok (.enter f args) w') (h:Calls P f args w' fun e w''=>∃ v,e=.returned v∧K (a.put d v) w''):wpOp P ops Q i K a w:=by
 subst hd
 exact wpOp_step ho fun K' hK=>by
  rw[if_pos hw,Oper.wp,hv,Oper.upon_enter]
  refine Calls.mono h ?_
  rintro e w'' ⟨v,rfl,h1⟩
  exact hK _ _ h1
section
variable {P:Program} {ops:Array Oper} {Q:Exit→Act→World→Prop} {md:Region.Mode} {S:World→Prop} {Z:Nat→Bool}
theorem ZB {i:Nat} {o:Oper} {d:Option Tmp} {f:FuncId} {args:Array Value} {fuel:Nat} {listed:Array Bool} {a:Act} {w w':World} (hr:Region.ready md ops listed=[i]) (ho:ops[i]?=some o) (hd:o.dst=d) (hw:Region.wanted o (yielded ops a.tmps)=true)
  (hv:(execOp a.eval o).run P w=.ok (.enter f args) w')
  (h:Calls P f args w' fun e w''=>∃ v,e=.returned v∧(Z i=false→S w'')∧Zu P md ops Q S Z fuel (listed.setIfInBounds i true) (a.put d v) w''):Zu P md ops Q S Z (fuel+1) listed a w:=by
 subst hd
 exact U6 hr (wpOp_step ho fun K' hK=>by
  rw[if_pos hw,Oper.wp,hv,Oper.upon_enter]
  refine Calls.mono h ?_
  rintro e w'' ⟨v,rfl,h1,h2⟩
  exact hK _ _ ⟨h1,h2⟩)
end
def NdB (W:World) (b:Nat) (id:St) (kind:ByteArray) (x y z:Sl):Prop:=W.heap[b]?=some (.cells #[.int .i64 id.n,.int .i64 id.r,.string kind,.slice x.a x.n x.cap,.slice y.a y.n y.cap,.slice z.a z.n z.cap] 28 (0,0))
section
variable {W W':World} {b:Nat} {id:St} {kind:ByteArray} {x y z:Sl}
theorem NdB.lt (h:NdB W b id kind x y z):b<W.heap.size:=(Array.getElem?_eq_some_iff.1 h).1
theorem NdB.ext {S:Nat→Prop} (h:NdB W b id kind x y z) (hx:Ext S W W') (hn:¬ S b):NdB W' b id kind x y z:=(hx.block b h.lt hn).trans h
theorem NdB.cells (h:NdB W b id kind x y z):W.cell? ⟨b,0,none⟩=some (.int .i64 id.n)∧W.cell? ⟨b,1,none⟩=some (.int .i64 id.r)∧W.cell? ⟨b,2,none⟩=some (.string kind)∧W.cell? ⟨b,3,none⟩=some (.slice x.a x.n x.cap)∧W.cell? ⟨b,4,none⟩=some (.slice y.a y.n y.cap)∧W.cell? ⟨b,5,none⟩=some (.slice z.a z.n z.cap)∧∀ i,W.frozen? ⟨b,i,none⟩=false:=by
 have h:=show W.heap[b]?=_ from h
 refine ⟨?_,?_,?_,?_,?_,?_,fun i=>?_⟩ <;> simp[World.cell?,World.frozen?,h]
theorem NdB.set (h:NdB W b id kind x y z) (i':St) (k':ByteArray) (x' y' z':Sl):NdB ((((((W.setCell ⟨b,0,none⟩ (.int .i64 i'.n)).setCell ⟨b,1,none⟩ (.int .i64 i'.r)).setCell ⟨b,2,none⟩ (.string k')).setCell ⟨b,3,none⟩ (.slice x'.a x'.n x'.cap)).setCell ⟨b,4,none⟩ (.slice y'.a y'.n y'.cap)).setCell ⟨b,5,none⟩ (.slice z'.a z'.n z'.cap)) b i' k' x' y' z':=by
 have h:=show W.heap[b]?=_ from h
 show (World.heap _)[b]?=_
 simp only[World.setCell,Array.getElem?_modify,if_true,h]
 rfl
theorem NdB.setKind (h:NdB W b id kind x y z) (k':ByteArray):NdB (W.setCell ⟨b,2,none⟩ (.string k')) b id k' x y z:=by
 have h:=show W.heap[b]?=_ from h
 show (World.heap _)[b]?=_
 simp only[World.setCell,Array.getElem?_modify,if_true,h]
 rfl
theorem NdB.setAttrs (h:NdB W b id kind x y z) (x':Sl):NdB (W.setCell ⟨b,3,none⟩ (.slice x'.a x'.n x'.cap)) b id kind x' y z:=by
 have h:=show W.heap[b]?=_ from h
 show (World.heap _)[b]?=_
 simp only[World.setCell,Array.getElem?_modify,if_true,h]
 rfl
end
structure Z33 (V:Vw) (n:Nat) (u:St) (w1 wx:World) (nb:Nat) (qs ks:Sl) (vs:List NdV):Prop where
 bel:Below w1.heap.size w1 wx
 lo:w1.heap.size≤nb
 box:NdB wx nb u Zs Z2 qs ks
 text:YJ (fun j=>w1.heap.size≤j∧j≠nb) wx (.slice qs.a qs.n qs.cap) (V.txt u)
 kids:Zx (fun j=>w1.heap.size≤j∧j≠nb) NdV.cells 6 wx (.slice ks.a ks.n ks.cap) vs
 sub:Zc (fun j=>w1.heap.size≤j∧j≠nb) wx vs (V.row n u)
theorem VP {V:Vw} {n:Nat} {u:St} {w1 W:World} {nb:Nat} {qs ks:Sl} {vs:List NdV} (hb:Below w1.heap.size w1 W) (hlo:w1.heap.size≤nb) (hbox:NdB W nb ⟨0,0⟩ ⟨#[]⟩ Z2 Z2 Z2) (ht:YJ (fun j=>w1.heap.size≤j∧j≠nb) W (.slice qs.a qs.n qs.cap) (V.txt u))
  (hk:Zx (fun j=>w1.heap.size≤j∧j≠nb) NdV.cells 6 W (.slice ks.a ks.n ks.cap) vs) (hs:Zc (fun j=>w1.heap.size≤j∧j≠nb) W vs (V.row n u)) :
  Z33 V n u w1 ((((((W.setCell ⟨nb,0,none⟩ (.int .i64 u.n)).setCell ⟨nb,1,none⟩ (.int .i64 u.r)).setCell ⟨nb,2,none⟩ (.string Zs)).setCell ⟨nb,3,none⟩ (.slice none 0 0)).setCell ⟨nb,4,none⟩ (.slice qs.a qs.n qs.cap)).setCell ⟨nb,5,none⟩ (.slice ks.a ks.n ks.cap)) nb qs ks vs:=by
 have hx:Ext (·=nb) W ((((((W.setCell ⟨nb,0,none⟩ (.int .i64 u.n)).setCell ⟨nb,1,none⟩ (.int .i64 u.r)).setCell ⟨nb,2,none⟩ (.string Zs)).setCell ⟨nb,3,none⟩ (.slice none 0 0)).setCell ⟨nb,4,none⟩ (.slice qs.a qs.n qs.cap)).setCell ⟨nb,5,none⟩ (.slice ks.a ks.n ks.cap)) :=
  ((((((Ext.refl (·=nb) W).setCell (p:=⟨nb,0,none⟩) (.inr rfl) _).setCell (p:=⟨nb,1,none⟩) (.inr rfl) _).setCell (p:=⟨nb,2,none⟩) (.inr rfl) _).setCell (p:=⟨nb,3,none⟩) (.inr rfl) _).setCell (p:=⟨nb,4,none⟩) (.inr rfl) _).setCell (p:=⟨nb,5,none⟩) (.inr rfl) _
 exact ⟨Ext.new hb hx (fun i hi _ e=>by omega) hb.size,hlo,hbox.set u Zs Z2 qs ks,ht.ext hx (fun j hj _ e=>hj.2 e),hk.ext hx (fun j hj _ e=>hj.2 e) (fun _=>Nat.zero_lt_succ 5),hs.ext hx (fun j hj _ e=>hj.2 e)⟩
theorem X8 (W:World):NdB (W.alloc (.cells #[.int .i64 0,.int .i64 0,.string ⟨#[]⟩,.slice none 0 0,.slice none 0 0,.slice none 0 0] 28)) W.heap.size ⟨0,0⟩ ⟨#[]⟩ Z2 Z2 Z2:=World.alloc_heap_new W _
theorem Xb.sl {base:Nat} {W:World} {u:Value} {P:Pcs} (h:Xb base W u P):∃ s:Sl,u=.slice s.a s.n s.cap:=by
 obtain ⟨a,c,e,_⟩:=h.shape
 exact ⟨⟨_,_,_⟩,e⟩
theorem Own.sl20 {α:Type} {ea:α→List Value} {k:Nat} {e:TypeId} {base:Nat} {w:World} {v:Value} {l:List α} (h:Own ea k e base w v l):∃ s:Sl,v=.slice s.a s.n s.cap:=by
 rcases h.eq_slice with ⟨e,_⟩|⟨g,c,e,_⟩
 ·exact ⟨Z2,e⟩
 ·exact ⟨⟨_,_,_⟩,e⟩
theorem X7 {fn:Func} {p:Tmp} {ty:TypeId} (h:fn.results=#[.cell p ty]) (tmps:Array Value) (P:Program) (w:World) :
  (results fn tmps).run P w=((asAddr (tmps.getD p undef)).run P w).andThen fun a w₁=>(loadVar ty a).run P w₁:=by
 simp only[results,h]
 simp[Sem.run_bind,Result.andThen]
theorem Z5.acells {w:World} {v:Value} {l:List Atr} (h:Z5 Atr.cells 2 w v l) (hne:l≠[]):∃ b o cap,v=.slice (some ⟨b,o,none⟩) l.length cap∧∀ i (x:Atr),l[i]?=some x→w.cell? ⟨b,o+i*2,none⟩=some (.string x.name)∧w.cell? ⟨b,o+i*2+1,none⟩=some (.string x.value):=by
 obtain ⟨a,cap,rfl,_,_,h4⟩:=h
 obtain ⟨b,o,rfl,h6⟩:=h4 hne
 exact ⟨b,o,cap,rfl,fun i x hi=>⟨h6 i x hi 0 _ rfl,h6 i x hi 1 _ rfl⟩⟩
theorem Ext.new2 {S T:Nat→Prop} {w w1 w2:World} (h:Ext S w w1) (h2:Ext T w1 w2) (hn:∀ j,j<w.heap.size→¬ T j):Ext S w w2 :=
 ⟨h2.os.trans h.os,h2.tape.trans h.tape,h2.output.trans h.output,Nat.le_trans h.size h2.size,fun j hj hs=>(h2.block j (Nat.lt_of_lt_of_le hj h.size) (hn j hj)).trans (h.block j hj hs)⟩
theorem Sz {L:List Atr} {k:Nat} {x:Atr} (h:L[k]?=some x):ZX (L.take (k+1))=ZI (ZX (L.take k)) x:=by
 unfold ZX
 rw[List.take_add_one,h,List.foldl_append]
 rfl
theorem Rn (L:List Atr):(ZX L).2.length≤L.length:=by
 unfold ZX
 have:∀ (L:List Atr) (p:ByteArray × List Atr),(L.foldl ZI p).2.length≤p.2.length+L.length:=fun L=>by
  induction L with
  | nil=>intro p;simp
  | cons a L ih =>
   intro p
   rw[List.foldl_cons]
   have:=ih (ZI p a)
   have h2:(ZI p a).2.length≤p.2.length+1:=by
    unfold ZI
    split
    ·omega
    ·split
     ·simp
     ·simp
   simp
   omega
 have:=this L (Zs,[])
 simpa using this
theorem Z1p (V:Vw) (b:Bl) (N n:Nat) (hrow:Rf V b N n):Z1N V b N n:=by
 intro u s m w hB hsp he hnm
 have hB0:Below w.heap.size w ((w.alloc (.cells #[.int .i64 u.n,.int .i64 u.r,.int .i64 s.lo,.int .i64 s.hi] 109)).alloc (.cells #[.int .i64 0,.int .i64 0,.string ⟨#[]⟩,.slice none 0 0,.slice none 0 0,.slice none 0 0] 28)):=((Below.refl _ _).alloc (Nat.le_refl _) _).alloc (by simp) _
 have hsb:SpB ((w.alloc (.cells #[.int .i64 u.n,.int .i64 u.r,.int .i64 s.lo,.int .i64 s.hi] 109)).alloc (.cells #[.int .i64 0,.int .i64 0,.string ⟨#[]⟩,.slice none 0 0,.slice none 0 0,.slice none 0 0] 28)) w.heap.size u s.lo s.hi:=(Below.heap_alloc _ _ _ (by simp)).trans (World.alloc_heap_new w _)
 have hrb:NdB ((w.alloc (.cells #[.int .i64 u.n,.int .i64 u.r,.int .i64 s.lo,.int .i64 s.hi] 109)).alloc (.cells #[.int .i64 0,.int .i64 0,.string ⟨#[]⟩,.slice none 0 0,.slice none 0 0,.slice none 0 0] 28)) (w.heap.size+1) ⟨0,0⟩ ⟨#[]⟩ Z2 Z2 Z2:=by
  have:=X8 (w.alloc (.cells #[.int .i64 u.n,.int .i64 u.r,.int .i64 s.lo,.int .i64 s.hi] 109))
  rwa [World.size_alloc] at this
 have hz1:((w.alloc (.cells #[.int .i64 u.n,.int .i64 u.r,.int .i64 s.lo,.int .i64 s.hi] 109)).alloc (.cells #[.int .i64 0,.int .i64 0,.string ⟨#[]⟩,.slice none 0 0,.slice none 0 0,.slice none 0 0] 28)).heap.size=w.heap.size+2:=by simp
 have hB1:=hB.below hB0
 have HB0:=Lib.hid hB0
 clear hB hB0
 go_enter Tryz.func71,Tryz.ntmps71
 go_upto_region 1 with fail
 generalize (w.alloc (.cells #[.int .i64 u.n,.int .i64 u.r,.int .i64 s.lo,.int .i64 s.hi] 109)).alloc (.cells #[.int .i64 0,.int .i64 0,.string ⟨#[]⟩,.slice none 0 0,.slice none 0 0,.slice none 0 0] 28)=w1 at *
 have hP:∀ W,Below w1.heap.size w1 W→Calls Tryz.prog 47 #[.slice b.va b.l.length b.ca,.agg #[.int .i64 u.n,.int .i64 u.r,.int .i64 s.lo,.int .i64 s.hi],.slice b.vb b.ms.length b.cb] W fun e w'=>∃ q,e=.returned q∧Xb W.heap.size w' q (V.txt u)∧Below W.heap.size W w':=fun W hW=>by
  rw[hB1.tx u s hsp]
  exact (S5 b.va b.vb b.ca b.cb b.l b.ms u.n u.r s.lo s.hi W (hB1.below hW).el (hB1.below hW).op hB1.ln.1 hB1.ln.2).mono (fun e w' ⟨q,h1,h2,h3⟩=>⟨q,h1,h2.out,h3⟩)
 have hR:∀ W,Below w1.heap.size w1 W→Calls Tryz.prog 48 #[.pointer (some ⟨b.bb,0,none⟩),.agg #[.int .i64 u.n,.int .i64 u.r]] W fun e w'=>Vq V n u W e w':=fun W hW=>hrow u m W (hB1.below hW) he hnm
 have HP:=Lib.hid hP
 have HR:=Lib.hid hR
 have HSB:=Lib.hid hsb
 have HBI:=Lib.hid hB1
 have HRB:=Lib.hid hrb
 obtain ⟨s0,s1,s2,s3,-⟩:=hsb.cells
 have c0:=hB1.c0
 have c4:=hB1.c4
 clear hP hR hB1 hrow hsp he hnm hsb hrb
 go_cut [5] (fun bv wx=>∃ (nb:Nat) (qs ks:Sl) (vs:List NdV),bv=.pointer (some ⟨nb,0,none⟩)∧Hid (Z33 V n u w1 wx nb qs ks vs))
 case first =>
  have HS:Hid (∀ W,Below w1.heap.size w1 W→W.cell? ⟨b.bb,0,none⟩=some (.slice b.va b.l.length b.ca)∧W.cell? ⟨b.bb,4,none⟩=some (.slice b.vb b.ms.length b.cb)∧W.cell? ⟨w.heap.size,0,none⟩=some (.int .i64 u.n)∧W.cell? ⟨w.heap.size,1,none⟩=some (.int .i64 u.r)∧W.cell? ⟨w.heap.size,2,none⟩=some (.int .i64 s.lo)∧W.cell? ⟨w.heap.size,3,none⟩=some (.int .i64 s.hi)):=Jh (fun W hW=>⟨Z0 hW c0,Z0 hW c4,Z0 hW s0,Z0 hW s1,Z0 hW s2,Z0 hW s3⟩)
  have hb1:Below w1.heap.size w1 w1.drew:=(Below.refl _ _).drew
  have hS0:(fun W:World=>W.cell? ⟨b.bb,0,none⟩=some (.slice b.va b.l.length b.ca)∧W.cell? ⟨b.bb,4,none⟩=some (.slice b.vb b.ms.length b.cb)∧W.cell? ⟨w.heap.size,0,none⟩=some (.int .i64 u.n)∧W.cell? ⟨w.heap.size,1,none⟩=some (.int .i64 u.r)∧W.cell? ⟨w.heap.size,2,none⟩=some (.int .i64 s.lo)∧W.cell? ⟨w.heap.size,3,none⟩=some (.int .i64 s.hi)) w1.drew:=HS.out _ hb1
  refine Zf (fun W:World=>W.cell? ⟨b.bb,0,none⟩=some (.slice b.va b.l.length b.ca)∧W.cell? ⟨b.bb,4,none⟩=some (.slice b.vb b.ms.length b.cb)∧W.cell? ⟨w.heap.size,0,none⟩=some (.int .i64 u.n)∧W.cell? ⟨w.heap.size,1,none⟩=some (.int .i64 u.r)∧W.cell? ⟨w.heap.size,2,none⟩=some (.int .i64 s.lo)∧W.cell? ⟨w.heap.size,3,none⟩=some (.int .i64 s.hi)) (fun i=>i == 18) (by kernel_rfl) ?_
  refine JR 0 8 _ rfl rfl hS0 (fun W hW=>by obtain ⟨q0,q1,q2,q3,q4,q5⟩:=hW;go_simp;try rfl) ?_
  try simp only[Ja]
  refine JR 1 9 (.agg #[.int .i64 u.n,.int .i64 u.r]) rfl rfl hS0 (fun W hW=>by obtain ⟨q0,q1,q2,q3,q4,q5⟩:=hW;go_simp;try rfl) ?_
  try simp only[Ja]
  refine JR 2 10 _ rfl rfl hS0 (fun W hW=>by obtain ⟨q0,q1,q2,q3,q4,q5⟩:=hW;go_simp;try rfl) ?_
  try simp only[Ja]
  refine JR 3 11 _ rfl rfl hS0 (fun W hW=>by obtain ⟨q0,q1,q2,q3,q4,q5⟩:=hW;go_simp;try rfl) ?_
  try simp only[Ja]
  refine JR 4 12 _ rfl rfl hS0 (fun W hW=>by obtain ⟨q0,q1,q2,q3,q4,q5⟩:=hW;go_simp;try rfl) ?_
  try simp only[Ja]
  refine JR 5 13 (.slice b.va b.l.length b.ca) rfl rfl hS0 (fun W hW=>by obtain ⟨q0,q1,q2,q3,q4,q5⟩:=hW;go_simp;try rfl) ?_
  try simp only[Ja]
  refine JR 6 14 (.agg #[.int .i64 u.n,.int .i64 u.r,.int .i64 s.lo,.int .i64 s.hi]) rfl rfl hS0 (fun W hW=>by obtain ⟨q0,q1,q2,q3,q4,q5⟩:=hW;go_simp;try rfl) ?_
  try simp only[Ja]
  refine JR 7 15 _ rfl rfl hS0 (fun W hW=>by obtain ⟨q0,q1,q2,q3,q4,q5⟩:=hW;go_simp;try rfl) ?_
  try simp only[Ja]
  refine JR 8 16 _ rfl rfl hS0 (fun W hW=>by obtain ⟨q0,q1,q2,q3,q4,q5⟩:=hW;go_simp;try rfl) ?_
  try simp only[Ja]
  refine JR 9 17 _ rfl rfl hS0 (fun W hW=>by obtain ⟨q0,q1,q2,q3,q4,q5⟩:=hW;go_simp;try rfl) ?_
  try simp only[Ja]
  refine JR 10 18 (.slice b.vb b.ms.length b.cb) rfl rfl hS0 (fun W hW=>by obtain ⟨q0,q1,q2,q3,q4,q5⟩:=hW;go_simp;try rfl) ?_
  try simp only[Ja]
  refine JR 12 20 _ rfl rfl hS0 (fun W hW=>by obtain ⟨q0,q1,q2,q3,q4,q5⟩:=hW;go_simp;try rfl) ?_
  try simp only[Ja]
  refine JR 13 21 _ rfl rfl hS0 (fun W hW=>by obtain ⟨q0,q1,q2,q3,q4,q5⟩:=hW;go_simp;try rfl) ?_
  try simp only[Ja]
  refine JR 14 22 (.agg #[.int .i64 u.n,.int .i64 u.r]) rfl rfl hS0 (fun W hW=>by obtain ⟨q0,q1,q2,q3,q4,q5⟩:=hW;go_simp;try rfl) ?_
  try simp only[Ja]
  clear hS0 c0 c4 s0 s1 s2 s3
  generalize w1.drew=w2 at hb1 ⊢
  refine TQ (rs:=[11,17]) (by kernel_rfl) (by simp) (fun i hi=>?_)
  rcases List.mem_cons.1 hi with rfl|hi
  ·skip
   refine Sr (d:=some 19) rfl rfl (by rfl) (w':=w2) (by go_simp;try rfl) ((HP.out _ hb1).mono ?_)
   rintro e w5 ⟨q,rfl,hq,b5⟩
   obtain ⟨qs,rfl⟩:=hq.sl
   have hq5:=hq.toD
   have hb5:=hb1.trans (b5.mono hb1.size)
   refine ⟨_,rfl,⟨fun _=>HS.out _ hb5,?_⟩⟩
   try simp only[Ja]
   have hz5:=b5.size
   refine TQ (rs:=[15,17]) (by kernel_rfl) (by simp) (fun i hi=>?_)
   rcases List.mem_cons.1 hi with rfl|hi
   ·skip
    refine Sr (d:=some 23) rfl rfl (by rfl) (w':=w5) (by go_simp;try rfl) ((HR.out _ hb5).mono ?_)
    rintro e w6 ⟨kv,vs,rfl,hown6,hn6,b6⟩
    obtain ⟨ks,rfl⟩:=hown6.sl20
    have hk6:=hown6.sliceD NdV.len
    have hb6:=hb5.trans (b6.mono hb5.size)
    have hz6:=b6.size
    refine ⟨_,rfl,⟨fun _=>HS.out _ hb6,?_⟩⟩
    try simp only[Ja]
    refine Xi (i:=16) (d:=some 24) (v:=.agg #[.int .i64 u.n,.int .i64 u.r,.string Zs,.slice none 0 0,.slice qs.a qs.n qs.cap,.slice ks.a ks.n ks.cap]) rfl rfl rfl (by kernel_rfl) (by kernel_rfl) (by kernel_rfl) (by kernel_rfl) (fun _ _ _ h=>h) (.inl ⟨by rfl,fun W hW=>by go_simp;try rfl⟩) (HS.out _ hb6) ?_
    try simp only[Ja]
    refine Zl (i:=17) (d:=some 5) (v:=.pointer (some ⟨w6.heap.size,0,none⟩)) (w':=w6.alloc (.cells #[.int .i64 0,.int .i64 0,.string ⟨#[]⟩,.slice none 0 0,.slice none 0 0,.slice none 0 0] 28)) (by kernel_rfl) rfl rfl (by rfl) (by go_simp;try rfl) (fun _=>HS.out _ (hb6.alloc hb6.size _)) ?_
    try simp only[Ja]
    have hz2:=hb1.size
    have hbW:=hb6.alloc hb6.size (.cells #[.int .i64 0,.int .i64 0,.string ⟨#[]⟩,.slice none 0 0,.slice none 0 0,.slice none 0 0] 28)
    have hloW:=hb6.size
    have hbox:=X8 w6
    have hal:Ext (fun _=>False) w6 (w6.alloc (.cells #[.int .i64 0,.int .i64 0,.string ⟨#[]⟩,.slice none 0 0,.slice none 0 0,.slice none 0 0] 28)):=(Ext.refl _ _).alloc _
    have htW:=(((hq5.ext (Ext.of_below (S:=fun _=>False) b6) (fun _ _ _ f=>f)).monoL (D':=fun j=>w1.heap.size≤j∧j≠w6.heap.size) (fun j hj hl=>⟨by omega,by omega⟩))).ext hal (fun _ _ _ f=>f)
    have hkW:=(hk6.monoL (D':=fun j=>w1.heap.size≤j∧j≠w6.heap.size) (fun _=>Nat.zero_lt_succ 5) (fun j hj hl=>⟨by have:=(hown6.blk j hj).1;omega,by omega⟩)).ext hal (fun _ _ _ f=>f) (fun _=>Nat.zero_lt_succ 5)
    have hsW:=(hn6.monoL (D':=fun j=>w1.heap.size≤j∧j≠w6.heap.size) (fun j hj hl=>⟨by omega,by omega⟩)).ext hal (fun _ _ _ f=>f)
    obtain ⟨g0,g1,g2,g3,g4,g5,gf⟩:=hbox.cells
    have gf0:=gf 0
    have gf1:=gf 1
    have gf2:=gf 2
    have gf3:=gf 3
    have gf4:=gf 4
    have gf5:=gf 5
    refine Zh (i:=18) (d:=none) (w':=((((((w6.alloc (.cells #[.int .i64 0,.int .i64 0,.string ⟨#[]⟩,.slice none 0 0,.slice none 0 0,.slice none 0 0] 28)).setCell ⟨w6.heap.size,0,none⟩ (.int .i64 u.n)).setCell ⟨w6.heap.size,1,none⟩ (.int .i64 u.r)).setCell ⟨w6.heap.size,2,none⟩ (.string Zs)).setCell ⟨w6.heap.size,3,none⟩ (.slice none 0 0)).setCell ⟨w6.heap.size,4,none⟩ (.slice qs.a qs.n qs.cap)).setCell ⟨w6.heap.size,5,none⟩ (.slice ks.a ks.n ks.cap)) (by kernel_rfl) rfl rfl (by rfl) (by unfold Zs Z2 at *;go_simp;try rfl) (fun h=>by cases h) ?_
    try simp only[Ja]
    refine Zd (by kernel_rfl) ?_ _
    have HC:=Jh (VP (V:=V) (n:=n) (u:=u) hbW hloW hbox htW hkW hsW)
    clear g0 g1 g2 g3 g4 g5 gf gf0 gf1 gf2 gf3 gf4 gf5
    go_wp2_with fail
    go_meet
    exact ⟨_,qs,ks,vs,rfl,HC⟩
   ·obtain rfl:=List.mem_singleton.1 hi
    refine Q9 (d:=some 5) (v:=.pointer (some ⟨w5.heap.size,0,none⟩)) (w':=w5.alloc (.cells #[.int .i64 0,.int .i64 0,.string ⟨#[]⟩,.slice none 0 0,.slice none 0 0,.slice none 0 0] 28)) rfl rfl (by rfl) (by go_simp;try rfl) ⟨fun _=>HS.out _ (hb5.alloc hb5.size _),?_⟩
    try simp only[Ja]
    have hal:Ext (fun _=>False) w5 (w5.alloc (.cells #[.int .i64 0,.int .i64 0,.string ⟨#[]⟩,.slice none 0 0,.slice none 0 0,.slice none 0 0] 28)):=(Ext.refl _ _).alloc _
    have hb5a:=hb5.alloc hb5.size (.cells #[.int .i64 0,.int .i64 0,.string ⟨#[]⟩,.slice none 0 0,.slice none 0 0,.slice none 0 0] 28)
    have hbx:=X8 w5
    have hz5a:(w5.alloc (.cells #[.int .i64 0,.int .i64 0,.string ⟨#[]⟩,.slice none 0 0,.slice none 0 0,.slice none 0 0] 28)).heap.size=w5.heap.size+1:=by simp
    have hq5a:=(hq5.monoL (D':=fun j=>w1.heap.size≤j∧j≠w5.heap.size) (fun j hj hl=>⟨by have:=hb1.size;omega,by omega⟩)).ext hal (fun _ _ _ f=>f)
    refine ZB (i:=15) (d:=some 23) (w':=(w5.alloc (.cells #[.int .i64 0,.int .i64 0,.string ⟨#[]⟩,.slice none 0 0,.slice none 0 0,.slice none 0 0] 28))) (by kernel_rfl) rfl rfl (by rfl) (by go_simp;try rfl) ((HR.out _ hb5a).mono ?_)
    rintro e w6 ⟨kv,vs,rfl,hown6,hn6,b6⟩
    obtain ⟨ks,rfl⟩:=hown6.sl20
    have hk6:=hown6.sliceD NdV.len
    have hb6:=hb5a.trans (b6.mono hb5a.size)
    have hz6:=b6.size
    refine ⟨_,rfl,fun _=>HS.out _ hb6,?_⟩
    try simp only[Ja]
    refine Xi (i:=16) (d:=some 24) (v:=.agg #[.int .i64 u.n,.int .i64 u.r,.string Zs,.slice none 0 0,.slice qs.a qs.n qs.cap,.slice ks.a ks.n ks.cap]) rfl rfl rfl (by kernel_rfl) (by kernel_rfl) (by kernel_rfl) (by kernel_rfl) (fun _ _ _ h=>h) (.inl ⟨by rfl,fun W hW=>by go_simp;try rfl⟩) (HS.out _ hb6) ?_
    try simp only[Ja]
    have hz2:=hb1.size
    have hbW:=hb6
    have hloW:=hb5.size
    have hbox:=hbx.ext (Ext.of_below (S:=fun _=>False) b6) (fun f=>f)
    have htW:=hq5a.ext (Ext.of_below (S:=fun _=>False) b6) (fun _ _ _ f=>f)
    have hkW:=hk6.monoL (D':=fun j=>w1.heap.size≤j∧j≠w5.heap.size) (fun _=>Nat.zero_lt_succ 5) (fun j hj hl=>⟨by have:=(hown6.blk j hj).1;omega,by have:=(hown6.blk j hj).1;omega⟩)
    have hsW:=hn6.monoL (D':=fun j=>w1.heap.size≤j∧j≠w5.heap.size) (fun j hj hl=>⟨by omega,by omega⟩)
    obtain ⟨g0,g1,g2,g3,g4,g5,gf⟩:=hbox.cells
    have gf0:=gf 0
    have gf1:=gf 1
    have gf2:=gf 2
    have gf3:=gf 3
    have gf4:=gf 4
    have gf5:=gf 5
    refine Zh (i:=18) (d:=none) (w':=(((((w6.setCell ⟨w5.heap.size,0,none⟩ (.int .i64 u.n)).setCell ⟨w5.heap.size,1,none⟩ (.int .i64 u.r)).setCell ⟨w5.heap.size,2,none⟩ (.string Zs)).setCell ⟨w5.heap.size,3,none⟩ (.slice none 0 0)).setCell ⟨w5.heap.size,4,none⟩ (.slice qs.a qs.n qs.cap)).setCell ⟨w5.heap.size,5,none⟩ (.slice ks.a ks.n ks.cap)) (by kernel_rfl) rfl rfl (by rfl) (by unfold Zs Z2 at *;go_simp;try rfl) (fun h=>by cases h) ?_
    try simp only[Ja]
    refine Zd (by kernel_rfl) ?_ _
    have HC:=Jh (VP (V:=V) (n:=n) (u:=u) hbW hloW hbox htW hkW hsW)
    clear g0 g1 g2 g3 g4 g5 gf gf0 gf1 gf2 gf3 gf4 gf5
    go_wp2_with fail
    go_meet
    exact ⟨_,qs,ks,vs,rfl,HC⟩
  ·obtain rfl:=List.mem_singleton.1 hi
   refine Q9 (d:=some 5) (v:=.pointer (some ⟨w2.heap.size,0,none⟩)) (w':=w2.alloc (.cells #[.int .i64 0,.int .i64 0,.string ⟨#[]⟩,.slice none 0 0,.slice none 0 0,.slice none 0 0] 28)) rfl rfl (by rfl) (by go_simp;try rfl) ⟨fun _=>HS.out _ (hb1.alloc hb1.size _),?_⟩
   try simp only[Ja]
   have hb2a:=hb1.alloc hb1.size (.cells #[.int .i64 0,.int .i64 0,.string ⟨#[]⟩,.slice none 0 0,.slice none 0 0,.slice none 0 0] 28)
   have hbx:=X8 w2
   have hz2a:(w2.alloc (.cells #[.int .i64 0,.int .i64 0,.string ⟨#[]⟩,.slice none 0 0,.slice none 0 0,.slice none 0 0] 28)).heap.size=w2.heap.size+1:=by simp
   refine ZB (i:=11) (d:=some 19) (w':=(w2.alloc (.cells #[.int .i64 0,.int .i64 0,.string ⟨#[]⟩,.slice none 0 0,.slice none 0 0,.slice none 0 0] 28))) (by kernel_rfl) rfl rfl (by rfl) (by go_simp;try rfl) ((HP.out _ hb2a).mono ?_)
   rintro e w5 ⟨q,rfl,hq,b5⟩
   obtain ⟨qs,rfl⟩:=hq.sl
   have hq5:=hq.toD
   have hb5:=hb2a.trans (b5.mono hb2a.size)
   refine ⟨_,rfl,fun _=>HS.out _ hb5,?_⟩
   try simp only[Ja]
   have hz5:=b5.size
   have hbx5:=hbx.ext (Ext.of_below (S:=fun _=>False) b5) (fun f=>f)
   refine ZB (i:=15) (d:=some 23) (w':=w5) (by kernel_rfl) rfl rfl (by rfl) (by go_simp;try rfl) ((HR.out _ hb5).mono ?_)
   rintro e w6 ⟨kv,vs,rfl,hown6,hn6,b6⟩
   obtain ⟨ks,rfl⟩:=hown6.sl20
   have hk6:=hown6.sliceD NdV.len
   have hb6:=hb5.trans (b6.mono hb5.size)
   have hz6:=b6.size
   refine ⟨_,rfl,fun _=>HS.out _ hb6,?_⟩
   try simp only[Ja]
   refine Xi (i:=16) (d:=some 24) (v:=.agg #[.int .i64 u.n,.int .i64 u.r,.string Zs,.slice none 0 0,.slice qs.a qs.n qs.cap,.slice ks.a ks.n ks.cap]) rfl rfl rfl (by kernel_rfl) (by kernel_rfl) (by kernel_rfl) (by kernel_rfl) (fun _ _ _ h=>h) (.inl ⟨by rfl,fun W hW=>by go_simp;try rfl⟩) (HS.out _ hb6) ?_
   try simp only[Ja]
   have hz2:=hb1.size
   have hbW:=hb6
   have hloW:=hb1.size
   have hbox:=hbx5.ext (Ext.of_below (S:=fun _=>False) b6) (fun f=>f)
   have htW:=(hq5.ext (Ext.of_below (S:=fun _=>False) b6) (fun _ _ _ f=>f)).monoL (D':=fun j=>w1.heap.size≤j∧j≠w2.heap.size) (fun j hj hl=>⟨by omega,by omega⟩)
   have hkW:=hk6.monoL (D':=fun j=>w1.heap.size≤j∧j≠w2.heap.size) (fun _=>Nat.zero_lt_succ 5) (fun j hj hl=>⟨by have:=(hown6.blk j hj).1;omega,by have:=(hown6.blk j hj).1;omega⟩)
   have hsW:=hn6.monoL (D':=fun j=>w1.heap.size≤j∧j≠w2.heap.size) (fun j hj hl=>⟨by omega,by omega⟩)
   obtain ⟨g0,g1,g2,g3,g4,g5,gf⟩:=hbox.cells
   have gf0:=gf 0
   have gf1:=gf 1
   have gf2:=gf 2
   have gf3:=gf 3
   have gf4:=gf 4
   have gf5:=gf 5
   refine Zh (i:=18) (d:=none) (w':=(((((w6.setCell ⟨w2.heap.size,0,none⟩ (.int .i64 u.n)).setCell ⟨w2.heap.size,1,none⟩ (.int .i64 u.r)).setCell ⟨w2.heap.size,2,none⟩ (.string Zs)).setCell ⟨w2.heap.size,3,none⟩ (.slice none 0 0)).setCell ⟨w2.heap.size,4,none⟩ (.slice qs.a qs.n qs.cap)).setCell ⟨w2.heap.size,5,none⟩ (.slice ks.a ks.n ks.cap)) (by kernel_rfl) rfl rfl (by rfl) (by unfold Zs Z2 at *;go_simp;try rfl) (fun h=>by cases h) ?_
   try simp only[Ja]
   refine Zd (by kernel_rfl) ?_ _
   have HC:=Jh (VP (V:=V) (n:=n) (u:=u) hbW hloW hbox htW hkW hsW)
   clear g0 g1 g2 g3 g4 g5 gf gf0 gf1 gf2 gf3 gf4 gf5
   go_wp2_with fail
   go_meet
   exact ⟨_,qs,ks,vs,rfl,HC⟩
 case rest =>
  obtain ⟨nb,qs,ks,vs,rfl,HC⟩:=hcut
  have hb:=HC.out.bel
  have hlo:=HC.out.lo
  have c3c:=(HBI.out.below hb).c3
  have s0c:=Z0 hb s0
  have s1c:=Z0 hb s1
  have hrc:=HRB.out.ext (Ext.of_below (S:=fun _=>False) hb) (fun f=>f)
  have hbw:=HB0.out.trans (hb.mono HB0.out.size)
  have hzc:=hb.size
  have hnbl:=HC.out.box.lt
  have HAL:=Jh (fun W (hW:Below w1.heap.size w1 W)=>(HBI.out.below hW).rg W (Below.refl _ _) u)
  have hbd:Below w1.heap.size w1 wc.drew:=hb.drew
  have hbwd:Below w.heap.size w wc.drew:=hbw.drew
  have hbx:NdB wc.drew nb u Zs Z2 qs ks:=HC.out.box
  have htx:YJ (fun j=>w1.heap.size≤j∧j≠nb) wc.drew (.slice qs.a qs.n qs.cap) (V.txt u):=HC.out.text.ext (Ext.of_below (S:=fun _=>False) (Below.refl _ wc).drew) (fun _ _ _ f=>f)
  have hkx:Zx (fun j=>w1.heap.size≤j∧j≠nb) NdV.cells 6 wc.drew (.slice ks.a ks.n ks.cap) vs:=HC.out.kids.ext (Ext.of_below (S:=fun _=>False) (Below.refl _ wc).drew) (fun _ _ _ f=>f) (fun _=>Nat.zero_lt_succ 5)
  have hsx:Zc (fun j=>w1.heap.size≤j∧j≠nb) wc.drew vs (V.row n u):=HC.out.sub.ext (Ext.of_below (S:=fun _=>False) (Below.refl _ wc).drew) (fun _ _ _ f=>f)
  have HCD:=Jh (And.intro hbx (And.intro htx (And.intro hkx hsx)))
  have hrcd:NdB wc.drew (w.heap.size+1) ⟨0,0⟩ ⟨#[]⟩ Z2 Z2 Z2:=hrc
  have HRC:=Lib.hid hrcd
  have HBW:=Lib.hid hbwd
  have hnbd:nb<wc.drew.heap.size:=hnbl
  clear s0 s1 s2 s3 c0 c4 hb HP HR hrc hrcd hbw hbwd hbx htx hkx hsx HC hnbl
  go_upto_region 2 with fail
  have hS0:(fun W:World=>W.cell? ⟨b.bb,3,none⟩=some b.gv∧W.cell? ⟨w.heap.size,0,none⟩=some (.int .i64 u.n)∧W.cell? ⟨w.heap.size,1,none⟩=some (.int .i64 u.r)) wc.drew:=⟨c3c,s0c,s1c⟩
  have HS3:Hid (∀ W,Below wc.drew.heap.size wc.drew W→W.cell? ⟨b.bb,3,none⟩=some b.gv∧W.cell? ⟨w.heap.size,0,none⟩=some (.int .i64 u.n)∧W.cell? ⟨w.heap.size,1,none⟩=some (.int .i64 u.r)):=Jh (fun W hW=>⟨Z0 hW c3c,Z0 hW s0c,Z0 hW s1c⟩)
  refine Zf (fun W:World=>W.cell? ⟨b.bb,3,none⟩=some b.gv∧W.cell? ⟨w.heap.size,0,none⟩=some (.int .i64 u.n)∧W.cell? ⟨w.heap.size,1,none⟩=some (.int .i64 u.r)) (fun _=>false) (by kernel_rfl) ?_
  refine J3 0 25 _ hS0 ?_
  try simp only[Ja]
  refine J3 1 26 _ hS0 ?_
  try simp only[Ja]
  refine J3 2 27 _ hS0 ?_
  try simp only[Ja]
  refine J3 3 28 (b.gv) hS0 ?_
  try simp only[Ja]
  refine J3 4 29 _ hS0 ?_
  try simp only[Ja]
  refine J3 5 30 (.agg #[.int .i64 u.n,.int .i64 u.r]) hS0 ?_
  try simp only[Ja]
  refine J3 8 33 _ hS0 ?_
  try simp only[Ja]
  clear hS0 c3c s0c s1c hzc
  generalize wc.drew=wd at *
  obtain ⟨L,hL⟩:=Je (V.regs u)
  refine ZB (i:=6) (d:=some 31) (w':=wd) (by kernel_rfl) rfl rfl (by rfl) (by go_simp;try rfl) ((HAL.out _ hbd).mono ?_)
  rintro e w2 ⟨v2,rfl,hown2,hll,b2⟩
  rw[hL] at hown2 hll
  have HLL:=Lib.hid hL
  obtain ⟨a2,cap2,rfl,hcc2,hmm2,-⟩:=hown2.slice (fun _=>rfl)
  unfold maxLen at hmm2
  have hS2:=HS3.out _ b2
  have hz2:=b2.size
  refine ⟨_,rfl,fun _=>hS2,?_⟩
  try simp only[Ja]
  refine J3 7 32 (.int .i64 L.length) hS2 ?_
  try simp only[Ja]
  refine Zd (by kernel_rfl) ?_ _
  have HB2:=Jh (HBW.out.trans (b2.mono (by have:=HBW.out.size;omega)))
  have HCE:=Jh (And.intro (HCD.out.1.ext (Ext.of_below (S:=fun _=>False) b2) (fun f=>f)) (And.intro (HCD.out.2.1.ext (Ext.of_below (S:=fun _=>False) b2) (fun _ _ _ f=>f)) (And.intro (HCD.out.2.2.1.ext (Ext.of_below (S:=fun _=>False) b2) (fun _ _ _ f=>f) (fun _=>Nat.zero_lt_succ 5)) (HCD.out.2.2.2.ext (Ext.of_below (S:=fun _=>False) b2) (fun _ _ _ f=>f)))))
  have HRC2:=Jh (HRC.out.ext (Ext.of_below (S:=fun _=>False) b2) (fun f=>f))
  have HOW:=Lib.hid hown2
  obtain ⟨i0,hi,hz0,hz1',hz2'⟩:=info_parts W5
  clear hS2 HS3 hL hown2 b2 HCD HRC HBW HAL hbd hcc2 HBI HSB HB0
  go_wp2_with fail
  go_loopg [33] L.length (fun g iv wx=>∃ (k:Nat) (sv:Sl),g=L.length - k∧k≤L.length∧iv=.int .i64 k∧Hid (NdB wx nb u (ZX (L.take k)).1 sv qs ks)∧Hid (Own Atr.cells 2 73 w2.heap.size wx sv.val (ZX (L.take k)).2)∧Hid (Ext (·=nb) w2 wx))
  case atStart=>exact ⟨0,Z2,rfl,Nat.zero_le _,rfl,HCE.out.1,Lib.hid Own.nil,Jh (Ext.refl _ _)⟩
  case round =>
   obtain ⟨k,sv,hg,hk,rfl,HNB,HO,HX⟩:=hrel
   have HG:=Lib.hid hg
   have hwz:=HX.out.size
   clear hg
   by_cases hlt:k<L.length
   ·obtain ⟨⟨nm,vl⟩,hx⟩:∃ x,L[k]?=some x:=⟨_,List.getElem?_eq_getElem hlt⟩
    have hkk:(k:Int)<(L.length:Int):=by omega
    have hk0:(0:Int)≤(k:Int):=by omega
    have hw4:=HOW.out.ext HX.out (fun j hj e=>by have:=(HOW.out.blk j hj).1;omega)
    obtain ⟨ba,oa,ca1,e1,hcs⟩:=(hw4.slice (fun _=>rfl)).acells (by intro e;rw[e] at hlt;simp at hlt)
    cases e1
    obtain ⟨y0,y1⟩:=hcs k _ hx
    simp only at y0 y1
    have HST:=Jh (Sz hx)
    have hpl:=Rn (L.take k)
    rw[List.length_take] at hpl
    have hpl2:(ZX (L.take k)).2.length≤1000000:=by omega
    obtain ⟨kd,hkd⟩:=Je ((ZX (L.take k)).1)
    obtain ⟨al,hal⟩:=Je ((ZX (L.take k)).2)
    have HRP:Hid (ZX (L.take k)=(kd,al)):=Jh (by rw[←hkd,←hal])
    rw[hkd] at HNB
    rw[hal] at HO hpl2
    clear hx hcs hw4 hpl hkd hal
    by_cases hv:vl=⟨#[]⟩
    ·subst hv
     go_wp2_with fail
     go_roundg (L.length - (k+1))
     case measure=>rw[HG.out];omega
     case rel =>
      refine ⟨k+1,sv,rfl,hlt,by go_num,?_,?_,Jh (HX.out.alloc _)⟩
      ·rw[HST.out,HRP.out];unfold ZI;rw[if_pos rfl];exact Jh (HNB.out.ext (((Ext.refl (fun _=>False) _).alloc _)) (fun f=>f))
      ·rw[HST.out,HRP.out];unfold ZI;rw[if_pos rfl];exact Jh (HO.out.alloc _)
    ·have hv1:(vl.toList == [])=false:=by
      cases h:(vl.toList == []) with
      | false=>rfl
      | true=>exact absurd ((ZO vl ⟨#[]⟩).1 (by simpa using eq_of_beq h)) hv
     have hv2:(vl == ⟨#[]⟩)=false:=by rw[Xe];simp[hv]
     have HV:=Lib.hid hv
     clear hv
     by_cases hn:nm=ZV
     ·subst hn
      obtain ⟨g0,g1,g2,g3,g4,g5,gf⟩:=HNB.out.cells
      have gf2:=gf 2
      clear gf g0 g1 g3 g4 g5
      have hnw:=HNB.out.lt
      unfold ZV at y0
      go_wp2_with fail
      go_roundg (L.length - (k+1))
      case measure=>rw[HG.out];omega
      case rel =>
       refine ⟨k+1,sv,rfl,hlt,by go_num,?_,?_,Jh ((HX.out.setCell (p:=⟨nb,2,none⟩) (.inr rfl) _).alloc _)⟩
       ·rw[HST.out,HRP.out];unfold ZI;rw[if_neg HV.out,if_pos rfl];exact Jh ((HNB.out.setKind vl).ext (((Ext.refl (fun _=>False) _).alloc _)) (fun f=>f))
       ·rw[HST.out,HRP.out];unfold ZI;rw[if_neg HV.out,if_pos rfl];exact Jh ((HO.out.ext (S:=(·=nb)) ((Ext.refl (·=nb) wr).setCell (p:=⟨nb,2,none⟩) (.inr rfl) _) (fun j hj e=>by have:=(HO.out.blk j hj).1;omega)).alloc _)
     ·have hn1:(nm.toList == [107,105,110,100])=false:=by
       cases h:(nm.toList == [107,105,110,100]) with
       | false=>rfl
       | true=>exact absurd ((ZO nm ZV).1 (by simpa [ZV] using eq_of_beq h)) hn
      have hn2:(nm == ⟨#[107,105,110,100]⟩)=false:=by rw[Xe];simp;exact hn
      have HN:=Lib.hid hn
      clear hn
      obtain ⟨sa,sn,sc⟩:=sv
      obtain ⟨g0,g1,g2,g3,g4,g5,gf⟩:=HNB.out.cells
      clear gf g0 g1 g2 g4 g5
      have hnw:=HNB.out.lt
      simp only at g3
      go_wp2_with (at_builtin;refine Zn rfl _ _ _ rfl i0 (.agg #[.string ⟨#[]⟩,.string ⟨#[]⟩]) 32 Tryz.underlying24 hi hz0 hz1' hz2' rfl (by omega) (fun _=>rfl) (fun x u hu=>by simp[Atr.cells] at hu;rcases hu with rfl|rfl <;> rfl) rfl ((HO.out.alloc _).alloc _) ⟨nm,vl⟩ (wr.heap.size+1) 1 rfl ?_ (by unfold maxLen;omega) (by omega) (by simp;omega) ?_)
      ·intro j u hj
       match j,hj with
       | 0,hj=>simp[Atr.cells] at hj;subst hj;go_simp
       | 1,hj=>simp[Atr.cells] at hj;subst hj;go_simp
       | n+2,hj=>simp[Atr.cells] at hj
      ·intro v8 w8 hown8 hx8 hfr8
       obtain ⟨g8,n8,c8,rfl⟩:∃ g8 n8 c8,v8=.slice g8 n8 c8:=by
        rcases hown8.eq_slice with ⟨e,_⟩|⟨g,c,e,_⟩
        ·exact ⟨_,_,_,e⟩
        ·exact ⟨_,_,_,e⟩
       have hbk:∀ j,(Sl.mk sa sn sc).val.ownBlock=some j→w2.heap.size≤j∧j<wr.heap.size:=fun j hj=>HO.out.blk j hj
       have hnb8:=(HNB.out.ext (((Ext.refl (fun _=>False) _).alloc _).alloc _) (fun f=>f)).ext hx8 (fun e=>by have:=hbk _ e;omega)
       obtain ⟨z0,z1,z2,z3,z4,z5,zf⟩:=hnb8.cells
       have zf3:=zf 3
       clear zf z0 z1 z2 z4 z5
       simp only at z3
       have HN8:=Lib.hid hnb8
       have HO8:=Lib.hid hown8
       have hx9:Ext (·=nb) w2 w8:=Ext.new2 ((HX.out.alloc _).alloc _) hx8 (fun j hj e=>by have:=hbk _ e;omega)
       have HX8:=Lib.hid hx9
       have hw8:w2.heap.size≤w8.heap.size:=hx9.size
       have hob8:∀ j,(Value.slice g8 n8 c8).ownBlock=some j→j≠nb:=fun j hj e=>by have:=(hown8.blk j hj).1;omega
       clear hnb8 hown8 hx8 hfr8 hx9 y0 y1 g3
       go_wp2_with fail
       go_roundg (L.length - (k+1))
       case measure=>rw[HG.out];omega
       case rel =>
        refine ⟨k+1,⟨g8,n8,c8⟩,rfl,hlt,by go_num,?_,?_,Jh (HX8.out.setCell (p:=⟨nb,3,none⟩) (.inr rfl) _)⟩
        ·rw[HST.out,HRP.out];unfold ZI;rw[if_neg HV.out,if_neg HN.out];exact Jh (HN8.out.setAttrs ⟨g8,n8,c8⟩)
        ·rw[HST.out,HRP.out];unfold ZI;rw[if_neg HV.out,if_neg HN.out];exact Jh ((HO8.out.ext (S:=(·=nb)) ((Ext.refl (·=nb) w8).setCell (p:=⟨nb,3,none⟩) (.inr rfl) _) (fun j hj e=>hob8 j hj e)))
   ·obtain rfl:k=L.length:=by omega
    have hkk:¬ (L.length:Int)<(L.length:Int):=by omega
    rw[List.take_length] at HNB HO
    obtain ⟨g0,g1,g2,g3,g4,g5,gf⟩:=HNB.out.cells
    clear gf
    have hne:w.heap.size+1≠nb:=by omega
    have hrc:=HRC2.out.ext HX.out (fun e=>hne e)
    obtain ⟨r0,r1,r2,r3,r4,r5,rf⟩:=hrc.cells
    have rf0:=rf 0
    have rf1:=rf 1
    have rf2:=rf 2
    have rf3:=rf 3
    have rf4:=rf 4
    have rf5:=rf 5
    have HR2:=Lib.hid hrc
    unfold Z2 at r3 r4 r5
    simp only at r0 r1 r2 r3 r4 r5
    clear rf hlt hk hrc
    go_wp2_with fail
    (try simp only[Exit.inBlock,Exit.then])
    refine bodyPost_ret (v:=.agg #[.int .i64 u.n,.int .i64 u.r,.string (ZX L).1,.slice sv.a sv.n sv.cap,.slice qs.a qs.n qs.cap,.slice ks.a ks.n ks.cap]) (by rw[X7 rfl];go_simp) rfl ?_
    have hfx:Ext (·=w.heap.size+1) wr ((((((wr.setCell ⟨w.heap.size+1,0,none⟩ (.int .i64 u.n)).setCell ⟨w.heap.size+1,1,none⟩ (.int .i64 u.r)).setCell ⟨w.heap.size+1,2,none⟩ (.string (ZX L).1)).setCell ⟨w.heap.size+1,3,none⟩ (.slice sv.a sv.n sv.cap)).setCell ⟨w.heap.size+1,4,none⟩ (.slice qs.a qs.n qs.cap)).setCell ⟨w.heap.size+1,5,none⟩ (.slice ks.a ks.n ks.cap)) :=
     ((((((Ext.refl (·=w.heap.size+1) wr).setCell (p:=⟨w.heap.size+1,0,none⟩) (.inr rfl) _).setCell (p:=⟨w.heap.size+1,1,none⟩) (.inr rfl) _).setCell (p:=⟨w.heap.size+1,2,none⟩) (.inr rfl) _).setCell (p:=⟨w.heap.size+1,3,none⟩) (.inr rfl) _).setCell (p:=⟨w.heap.size+1,4,none⟩) (.inr rfl) _).setCell (p:=⟨w.heap.size+1,5,none⟩) (.inr rfl) _
    have hb2s:=HB2.out.size
    have ho2:=HO.out.ext hfx (fun j hj e=>by have:=(HO.out.blk j hj).1;omega)
    refine ⟨⟨u,(ZX L).1,sv,qs,ks⟩,rfl,?_,Ext.new (Ext.new HB2.out HX.out (fun i hi _ e=>by omega) hb2s) hfx (fun i hi _ e=>by omega) (by omega)⟩
    unfold Vw.nd
    rw[HLL.out]
    refine Zv.make rfl rfl ((ho2.sliceD (fun _=>rfl)).mono (fun j hj=>by have:=(ho2.blk j hj).1;omega)) ?_ (vs:=vs) ?_ ?_
    ·exact (((HCE.out.2.1.ext HX.out (fun j hj _ e=>hj.2 e)).ext hfx (fun j hj _ e=>by omega)).mono (fun j hj=>by omega))
    ·exact (((HCE.out.2.2.1.ext HX.out (fun j hj _ e=>hj.2 e) (fun _=>Nat.zero_lt_succ 5)).ext hfx (fun j hj _ e=>by omega) (fun _=>Nat.zero_lt_succ 5)).mono (fun j hj=>by omega))
    ·exact (((HCE.out.2.2.2.ext HX.out (fun j hj _ e=>hj.2 e)).ext hfx (fun j hj _ e=>by omega)).mono (fun j hj=>by omega))
attribute [local go_sem] Oper.semAt_some
def RSp (ob sb:Nat) (A:World) (k:Nat):Prop:=k=ob∨(k≠sb∧sb≤k∧∃ cur,A.heap[k]?=some (.cells cur 109 (0,0)))
theorem Z27 (va:Option Addr) (ca:Nat) (l:List El) (w:World) (hl:Z5 El.cells 4 w (.slice va l.length ca) l) (hln:l.length≤1000) :
  Calls Tryz.prog 45 #[.slice va l.length ca] w fun e w'=>∃ u,e=.returned u∧Own Spn.cells 4 109 w.heap.size w' u (ZY l)∧Below w.heap.size w w':=by
 refine (callsIn_wide (n:=5)).1 ?_
 refine callsIn_of_wp_marks Tryz.func45 rfl trivial ?_ rfl
 simp only[Tryz.ntmps45,List.size_toArray,List.length_cons,List.length_nil,Nat.reduceAdd,Nat.reduceSub,Array.replicate_succ,Array.replicate_zero,List.push_toArray,List.append_toArray,List.nil_append,List.cons_append]
 gi_wp2
 refine ⟨trivial,?_⟩
 refine (callsIn_wide.2 (Qj va l.length ca _)).mono ?_
 rintro e w' ⟨rfl,rfl⟩
 gi_wp2
 have hB0:Below w.heap.size w ((w.alloc (.cells #[.slice none 0 0] 106)).alloc (.cells #[.slice va l.length ca] 34)):=((Below.refl _ _).alloc (Nat.le_refl _) _).alloc (by simp) _
 have o0:((w.alloc (.cells #[.slice none 0 0] 106)).alloc (.cells #[.slice va l.length ca] 34)).heap[w.heap.size]?=some (.cells #[.slice none 0 0] 106 (0,0)) :=
  (Below.heap_alloc _ _ _ (by simp)).trans (World.alloc_heap_new w _)
 have s0:((w.alloc (.cells #[.slice none 0 0] 106)).alloc (.cells #[.slice va l.length ca] 34)).cell? ⟨w.heap.size+1,0,none⟩=some (.slice va l.length ca):=by go_simp
 have z0:((w.alloc (.cells #[.slice none 0 0] 106)).alloc (.cells #[.slice va l.length ca] 34)).heap.size=w.heap.size+2:=by simp
 generalize (w.alloc (.cells #[.slice none 0 0] 106)).alloc (.cells #[.slice va l.length ca] 34)=W0 at *
 have hl0:=hl.below hB0
 refine Z0G (U:=Spn) (by omega) (gf:=91) (lb:=#[.pointer (some ⟨w.heap.size+1,0,none⟩)]) rfl (enters_of Tryz.func91 (by kernel_rfl) rfl)
  (fun x=>#[.agg #[.int .i64 x.blk.n,.int .i64 x.blk.r,.int .i64 x.lo,.int .i64 x.hi]]) (fun _=>rfl) (RSp w.heap.size (W0.heap.size+2)) (·=W0.heap.size+2) (fun W k e=>by rcases e with e|⟨e,e2,_⟩ <;> omega) (fun W W' k hk e=>?_) (fun k e=>by omega) (ZY l)
  (fun pre A=>∃ v,A.heap[w.heap.size]?=some (.cells #[v] 106 (0,0))∧Own Spn.cells 4 109 (W0.heap.size+3) A v pre∧Ext (·=w.heap.size) W0 A)
  (fun pre A A' h hx=>?_)
  (R8 4 (by omega) (w.heap.size+1) _ l (RSp w.heap.size (W0.heap.size+2)) W0 hl0 hln s0 (fun A e=>by rcases e with e|⟨e,e2,_⟩ <;> omega) (fun A e=>by rcases e with e|⟨e,e2,_⟩ <;> omega) (fun A k cur hk h e=>?_) (fun hne b o m c e=>?_)) ⟨_,o0,Own.nil,Ext.refl _ _⟩ ?_ ?_
 ·rcases e with e|⟨e,e2,cur,e3⟩
  ·exact .inl e
  ·exact .inr ⟨e,e2,cur,hk.symm.trans e3⟩
 ·obtain ⟨v,h1,h2,h3⟩:=h
  have hlt:=(Array.getElem?_eq_some_iff.1 h1).1
  exact ⟨v,(hx.block _ hlt (by omega)).trans h1,h2.ext hx (fun b hb e=>by have:=(h2.blk b hb).1;omega),h3.andThen hx (fun i hi e=>by omega)⟩
 ·rcases e with e|⟨_,_,cur',e3⟩
  ·omega
  ·rw[h] at e3
   cases e3
 ·cases e
  obtain ⟨_,_,e1,_,_,h4⟩:=hl
  cases e1
  obtain ⟨b',o',e2,h5⟩:=h4 hne
  cases e2
  obtain ⟨x,hx⟩:∃ x,l[0]?=some x:=by
   cases l with
   | nil=>exact absurd rfl hne
   | cons x r=>exact ⟨x,rfl⟩
  have:=Zj (h5 0 x hx 0 _ rfl)
  refine ⟨fun A e=>?_,by omega⟩
  rcases e with e|⟨e,e2,_⟩ <;> omega
 ·rintro lb pre x A ⟨v,ho,hown,hx⟩ hpx hlt
  have hpl:=hpx.length_le
  have hsl:=UP l
  rw[List.length_append,List.length_singleton] at hpl
  have hAsz:=hx.size
  gi_wp2
  refine ⟨(Ext.refl _ _).alloc _,⟨v,?_,hown.alloc _,hx.alloc _⟩,?_⟩
  ·exact (Below.heap_alloc _ _ _ (Array.getElem?_eq_some_iff.1 ho).1).trans ho
  rintro A2 ⟨v2,ho2,hown2,hxA2⟩ hx2
  have hlA:=hx2.size
  rw[World.size_alloc] at hlA
  have b0:A2.cell? ⟨A.heap.size,0,none⟩=some (.int .i64 x.blk.n):=hx2.keep (by go_simp) (by omega)
  have b1:A2.cell? ⟨A.heap.size,1,none⟩=some (.int .i64 x.blk.r):=hx2.keep (by go_simp) (by omega)
  have b2:A2.cell? ⟨A.heap.size,2,none⟩=some (.int .i64 x.lo):=hx2.keep (by go_simp) (by omega)
  have b3:A2.cell? ⟨A.heap.size,3,none⟩=some (.int .i64 x.hi):=hx2.keep (by go_simp) (by omega)
  have hc2:A2.cell? ⟨w.heap.size,0,none⟩=some v2:=by simp[World.cell?,ho2]
  have hs2:=hxA2.size
  have HO2:=Lib.hid ho2
  have HX2:=Lib.hid hxA2
  clear ho ho2 hx hxA2 hx2 hown hl hl0 s0 o0
  obtain ⟨i0,hi,hz0,hz1',hz2⟩:=info_parts SI
  gi_wp2_with (gi_at_builtin;refine Wh rfl _ _ _ rfl i0 (.agg #[.int .i64 0,.int .i64 0,.int .i64 0,.int .i64 0]) 32 Tryz.underlying106 hi hz0 hz1' hz2 rfl (by omega) Spn.len Spn.one rfl (hown2.alloc _) x A2.heap.size 1 rfl ?_ (by unfold maxLen;omega) (by omega) (by simp;omega) ?_)
  ·intro j u hj
   match j,hj with
   | 0,hj=>simp[Spn.cells] at hj;subst hj;go_simp
   | 1,hj=>simp[Spn.cells] at hj;subst hj;go_simp
   | 2,hj=>simp[Spn.cells] at hj;subst hj;go_simp
   | 3,hj=>simp[Spn.cells] at hj;subst hj;go_simp
   | n+4,hj=>simp[Spn.cells] at hj
  ·intro v' A5 hown5 hx5
   obtain ⟨g5,c5,n5,rfl⟩:∃ g5 c5 n5,v'=.slice (some ⟨g5,0,none⟩) n5 c5:=by
    rcases hown5.eq_slice with ⟨_,e⟩|⟨g5,c5,e,_,_⟩
    ·simp at e
    ·exact ⟨g5,c5,_,e⟩
   have hne:∀ b,v2.ownBlock=some b→W0.heap.size+3≤b:=fun b hb=>by have:=(hown2.blk b hb).1;omega
   have hsp:∀ b,v2.ownBlock=some b→RSp w.heap.size (W0.heap.size+2) A2 b:=fun b hb=>by
    obtain ⟨cur,hcur⟩:=hown2.tag hb
    have:=hne b hb
    exact .inr ⟨by omega,by omega,cur,hcur⟩
   have hlt4:=(Array.getElem?_eq_some_iff.1 HO2.out).1
   have ho5:A5.heap[w.heap.size]?=some (.cells #[v2] 106 (0,0)):=(hx5.block _ (by simp;omega) (fun e=>by have:=hne _ e;omega)).trans ((Below.heap_alloc _ _ _ hlt4).trans HO2.out)
   have hf5:A5.frozen? ⟨w.heap.size,0,none⟩=false:=by simp[World.frozen?,ho5]
   have hc5:A5.cell? ⟨w.heap.size,0,none⟩=some v2:=by simp[World.cell?,ho5]
   have hx6:Ext (·=w.heap.size) A5 (A5.setCell ⟨w.heap.size,0,none⟩ (.slice (some ⟨g5,0,none⟩) n5 c5)):=(Ext.refl (·=w.heap.size) A5).setCell (p:=⟨w.heap.size,0,none⟩) (.inr rfl) (.slice (some ⟨g5,0,none⟩) n5 c5)
   have r1:(A5.setCell ⟨w.heap.size,0,none⟩ (.slice (some ⟨g5,0,none⟩) n5 c5)).heap[w.heap.size]?=some (.cells #[.slice (some ⟨g5,0,none⟩) n5 c5] 106 (0,0)):=heap_setCell_same A5 _ 0 #[v2] _ (.slice (some ⟨g5,0,none⟩) n5 c5) ho5
   have r2:=hown5.ext hx6 (fun b hb e=>by have:=(hown5.blk b hb).1;omega)
   have r3:Ext (·=w.heap.size) W0 (A5.setCell ⟨w.heap.size,0,none⟩ (.slice (some ⟨g5,0,none⟩) n5 c5)):=((HX2.out.alloc _).andThen hx5 (fun i hi e=>by have:=hne _ e;omega)).andThen hx6 (fun i hi e=>e)
   have r4:Ext (RSp w.heap.size (W0.heap.size+2) A2) A2 (A5.setCell ⟨w.heap.size,0,none⟩ (.slice (some ⟨g5,0,none⟩) n5 c5)):=(((Ext.refl (RSp w.heap.size (W0.heap.size+2) A2) A2).alloc _).andThen hx5 (fun i hi e=>hsp i e)).andThen hx6 (fun i hi e=>.inl e)
   have R1:=Lib.hid r1
   have R2:=Lib.hid r2
   have R3:=Lib.hid r3
   have R4:=Lib.hid r4
   clear r1 r2 r3 r4 hx6 hx5 hown5 hown2 ho5 HO2 HX2
   gi_wp2
   exact ⟨⟨_,R1.out,by first|exact R2.out|(rw[z0];exact R2.out),R3.out⟩,R4.out⟩
 ·rintro A ⟨v,ho,hown,hx⟩ hK
  have hc:A.cell? ⟨w.heap.size,0,none⟩=some v:=by simp[World.cell?,ho]
  have HB1:=Jh (Ext.new hB0 hx (fun i hi _ e=>by omega) (by omega))
  have HO:=Lib.hid hown
  clear ho hB0 hx s0 hl0 hl hown
  gi_wp2
  have hx7:Ext (·=W0.heap.size) A (A.putObj W0.heap.size (.deferred none)):=Yc _ _ _
  have hs7:=HB1.out.size
  refine ⟨by simp,.inl ⟨_,_,rfl,run_takeDeferred hK,?_⟩⟩
  refine ⟨_,results_tmp rfl _ _ _,v,rfl,?_,?_⟩
  ·exact (HO.out.ext hx7 (fun b hb e=>by have:=(HO.out.blk b hb).1;omega)).mono (by omega)
  ·exact Ext.new HB1.out hx7 (fun i hi _ e=>by omega) (by omega)
theorem Vr (V:Vw) (b:Bl) (A:List Ch) (hk:ZZ V.H) (ha:XI V.H) (hA:Zo V.H A) (hAl:A.length≤10000):∀ n,Rf V b A.length n
 | 0=>by
  intro u m W _ he hnm
  obtain ⟨m',h1,h2⟩:=Sk hk ha hA u
  have:=XN _ _ _ he h1
  omega
 | n+1=>Z2o V b A n hA hAl (Vr V b A hk ha hA hAl n) (Z1p V b A.length n (Vr V b A hk ha hA hAl n))
theorem Z2N {K U:Type} [DecidableEq K] {l:List (K × U)} {k:K} {v:U} (h:k∉l.map (·.1)):Zw l k v=l++[(k,v)]:=by
 induction l with
 | nil=>rfl
 | cons p r ih =>
  obtain ⟨a,b⟩:=p
  have h1:¬ a=k:=fun e=>h (by rw[←e];simp)
  have h2:k∉r.map (·.1):=fun e=>h (by simp only[List.map_cons];exact List.mem_cons_of_mem _ e)
  simp only[Zw,h1,if_false,ih h2,List.cons_append]
noncomputable def Ye (l:List El) (ms:List OpD) (rg:St→List Atr) (h:Zk) (A:List Ch):Vw :=
 ⟨X6 l,rg,fun u=>(YD l u).elim [] (fun s=>Yb l ms s.lo s.hi),Y6 l h A⟩
noncomputable def XA (l:List El) (ms:List OpD):Pcs:=(ZY l).head?.elim [] (fun s=>Yb l ms s.lo s.hi)
theorem Z1j {C:List Ch} (hn:C.Pairwise (fun a b=>a.block≠b.block)):∃ D:List Ch,D.Perm C∧D.Pairwise (fun a b=>ZK a.block b.block):=by
 have hdec:∀ a b:St,Decidable (ZK a b):=fun _ _=>Classical.propDecidable _
 let le:Ch→Ch→Bool:=fun a b=>@decide (¬ ZK b.block a.block) (Classical.propDecidable _)
 have hle:∀ a b,le a b=true↔¬ ZK b.block a.block:=fun a b=>@decide_eq_true_iff _ (Classical.propDecidable _)
 have hs:=List.pairwise_mergeSort (le:=le) (l:=C) (fun a b c h1 h2=>by
  rw[hle] at *
  intro h3
  rcases Y8 a.block b.block with h|h|h
  ·exact h2 (ZC h3 h)
  ·rw[h] at h3;exact h2 h3
  ·exact h1 h) (fun a b=>by
  rw[Bool.or_eq_true,hle,hle]
  rcases Y8 a.block b.block with h|h|h
  ·exact .inl (fun k=>Zm _ (ZC h k))
  ·exact .inl (by rw[h];exact Zm _)
  ·exact .inr (fun k=>Zm _ (ZC h k)))
 have hn2:(C.mergeSort le).Pairwise (fun a b=>a.block≠b.block):=(List.mergeSort_perm C le).symm.pairwise hn (fun h e=>h e.symm)
 refine ⟨_,List.mergeSort_perm C le,(List.pairwise_and_iff.2 ⟨hs,hn2⟩).imp (fun {a b} h=>?_)⟩
 rw[hle] at h
 rcases Y8 a.block b.block with k|k|k
 ·exact k
 ·exact absurd k h.2
 ·exact absurd k h.1
theorem Z3a {A C:List Ch} {ks:List St} (g:Gth A (fun s=>s∈ks∨∃ d∈A,d.under=s) C):C.length≤A.length+(ks.length+A.length):=by
 have h1:(C.map Ch.block).Nodup:=List.pairwise_map.2 g.nodup
 have:=h1.length_le_of_subset (l₂:=A.map Ch.block++(ks++A.map Ch.under)) (fun s hs=>by
  obtain ⟨c,hc,rfl⟩:=List.mem_map.1 hs
  rcases g.new c hc with k|⟨_,_,_,k⟩
  ·exact List.mem_append_left _ (List.mem_map.2 ⟨c,k,rfl⟩)
  ·refine List.mem_append_right _ ?_
   rcases k with k|⟨d,k1,k2⟩
   ·exact List.mem_append_left _ k
   ·exact List.mem_append_right _ (List.mem_map.2 ⟨d,k1,k2⟩))
 simpa using this
theorem RT {l:List El} {h:Zk} {A C:List Ch} (hA:Zo h A) (hk:ZZ h) (g:Gth A (fun s=>s∈(ZJ l).map (·.1)∨∃ d∈A,d.under=s) C):∃ D,Zo (Y6 l h A) D∧D.length≤A.length+((ZJ l).length+A.length):=by
 have g2:=g.mono (T:=fun s=>X6 l s=true∨∃ d∈A,d.under=s) (fun s=>or_congr (VS _ _).symm Iff.rfl)
 obtain ⟨D,h1,h2⟩:=Z1j g.nodup
 refine ⟨D,g2.allOf hA hk h1 h2,?_⟩
 rw[h1.length_eq]
 have:=Z3a g
 rwa [List.length_map] at this
def BdB (W:World) (b:Bl) (gp:Option Addr):Prop:=b.gv=.pointer gp∧W.heap[b.bb]?=some (.cells #[.slice b.va b.l.length b.ca,.map (some b.pb),.map (some b.kb),.pointer gp,.slice b.vb b.ms.length b.cb] 105 (0,0))
theorem BdB.ext {S:Nat→Prop} {W W':World} {b:Bl} {gp:Option Addr} (h:BdB W b gp) (hx:Ext S W W') (hn:¬ S b.bb):BdB W' b gp:=⟨h.1,(hx.block b.bb (Array.getElem?_eq_some_iff.1 h.2).1 hn).trans h.2⟩
theorem BdB.cells {W:World} {b:Bl} {gp:Option Addr} (h:BdB W b gp):W.cell? ⟨b.bb,0,none⟩=some (.slice b.va b.l.length b.ca)∧W.cell? ⟨b.bb,1,none⟩=some (.map (some b.pb))∧W.cell? ⟨b.bb,2,none⟩=some (.map (some b.kb))∧W.cell? ⟨b.bb,3,none⟩=some (.pointer gp)∧W.cell? ⟨b.bb,4,none⟩=some (.slice b.vb b.ms.length b.cb):=by
 have h:=h.2
 refine ⟨?_,?_,?_,?_,?_⟩ <;> simp[World.cell?,h]
theorem Z2u {W:World} {b:Bl} {gp:Option Addr} {rg:St→List Atr} {h:Zk} {A C:List Ch} {F:St→List Ch} {lk:List (St × Sl)} {base:Nat} (hb:BdB W b gp) (hel:Z5 El.cells 4 W (.slice b.va b.l.length b.ca) b.l) (hop:Z5 OpD.cells 26 W (.slice b.vb b.ms.length b.cb) b.ms)
  (hln:b.l.length≤1000∧b.ms.length≤1000) (hA:Zo h A) (hk:ZZ h) (hpm:Z6 St.val Spn.val W b.pb (ZJ b.l)) (g:Gth A (fun s=>s∈(ZJ b.l).map (·.1)∨∃ d∈A,d.under=s) C) (hkm:KM base W b.kb F lk) (hF:∀ u,(F u).Perm (YH C u)∧(F u).Pairwise YA)
  (hrg:∀ W',Below W.heap.size W W'→∀ u:St,Calls Tryz.prog 44 #[.pointer gp,.agg #[.int .i64 u.n,.int .i64 u.r]] W' fun e w'=>XQ W' (rg u) e w'):BIs W b (Ye b.l b.ms rg h A):=by
 obtain ⟨c0,c1,c2,c3,c4⟩:=hb.cells
 have g2:=g.mono (T:=fun s=>X6 b.l s=true∨∃ d∈A,d.under=s) (fun s=>or_congr (VS _ _).symm Iff.rfl)
 have hkc:∀ u,Yl (Ye b.l b.ms rg h A).H u=F u:=fun u=>Tr (g2.kidsOf hA hk (hF u).1 (hF u).2)
 refine ⟨c0,c1,c2,by rw[hb.1];exact c3,c4,hel,hop,hln,⟨_,hpm,fun u=>rfl⟩,⟨lk,hkm.map,fun u s hs=>?_,fun u hn=>?_⟩,fun W' hW u=>?_,fun u=>rfl,fun u s hs=>?_⟩
 ·rw[hkc];exact (hkm.row u s hs).slice (fun _=>rfl)
 ·rw[hkc];exact hkm.non u hn
 ·rw[hb.1];exact hrg W' hW u
 ·simp only[Ye,hs,Option.elim]
theorem Z0m (b o j:Nat):(⟨b,o,none⟩:Addr).add j=⟨b,o+j,none⟩:=by unfold Addr.add;split <;> simp_all
theorem Z0U {P:Program} {α:Type} {ea:α→List Value} {q:Nat} {t e:TypeId} (ht:P.underlying t=some (.slice e)) (hsz:(P.info? e).map (·.size)=some q) (a:Option Addr) (n cap p:Nat) (hn:n≤cap) (hp:p≤n) :
  ∃ a' c',(∀ W,(Instr.slice t (.slice a n cap) (some (.int .i64 (p:Int))) none none).run P W=.ok (.slice a' (n - p) c') W)∧(∀ W (l:List α),l.length=n→Z5 ea q W (.slice a n cap) l→Z5 ea q W (.slice a' (n - p) c') (l.drop p)):=by
 obtain ⟨i,hi,hq⟩:∃ i,P.info? e=some i∧i.size=q:=by
  cases h:P.info? e with
  | none=>rw[h] at hsz;cases hsz
  | some i=>rw[h] at hsz;exact ⟨i,rfl,Option.some.inj hsz⟩
 refine ⟨if cap=p then a else a.map (·.add (p*q)),cap - p,fun W=>?_,fun W l hl h=>?_⟩
 ·simp[Instr.slice,Instr.sliceBounds,Instr.sliceBound,asIntOf,run_underlying ht,sizeOf,typeInfo,hi,hq,hp,hn]
 ·obtain ⟨a2,c2,e2,h1,h2,h3⟩:=h
  cases e2
  refine ⟨_,_,by rw[List.length_drop],by rw[List.length_drop];omega,by omega,fun hne=>?_⟩
  have hlt:p<l.length:=by
   rcases Nat.lt_or_ge p l.length with h|h
   ·exact h
   ·exact absurd (List.drop_eq_nil_of_le (by omega)) hne
  have hl0:l≠[]:=by rintro rfl;simp at hne
  obtain ⟨b,off,rfl,h4⟩:=h3 hl0
  rw[if_neg (by omega)]
  refine ⟨b,off+p*q,by simp[Z0m],fun i x hi' j u hj=>?_⟩
  rw[List.getElem?_drop] at hi'
  have h5:=h4 (p+i) x hi' j u hj
  rw[Nat.add_mul] at h5
  rw[show off+p*q+i*q+j=off+(p*q+i*q)+j by omega]
  exact h5
theorem Z1D:Tryz.prog.underlying 106=some (.slice 109):=by kernel_rfl
theorem Z1n:(Tryz.prog.info? 109).map (·.size)=some 4:=by kernel_rfl
theorem Z5.spcells {w:World} {v:Value} {l:List Spn} (h:Z5 Spn.cells 4 w v l) (hne:l≠[]):∃ b o cap,v=.slice (some ⟨b,o,none⟩) l.length cap∧∀ i (x:Spn),l[i]?=some x →
  w.cell? ⟨b,o+i*4,none⟩=some (.int .i64 x.blk.n)∧w.cell? ⟨b,o+i*4+1,none⟩=some (.int .i64 x.blk.r)∧w.cell? ⟨b,o+i*4+2,none⟩=some (.int .i64 x.lo)∧w.cell? ⟨b,o+i*4+3,none⟩=some (.int .i64 x.hi):=by
 obtain ⟨a,cap,rfl,_,_,h4⟩:=h
 obtain ⟨b,o,rfl,h6⟩:=h4 hne
 exact ⟨b,o,cap,rfl,fun i x hi=>⟨h6 i x hi 0 _ rfl,h6 i x hi 1 _ rfl,h6 i x hi 2 _ rfl,h6 i x hi 3 _ rfl⟩⟩
end Go.Proofs.YtlgipkemoldckaaGreatDoor
