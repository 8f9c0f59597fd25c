/- VAll2, part 3 of what the proof leans on (made short by a program). -/
import Derived.Test.YtlgipkemoldckaaGreatDoorVrZ2
set_option linter.unusedSimpArgs false
set_option linter.unusedVariables false
set_option linter.unusedSectionVars false
set_option maxRecDepth 20000
set_option maxHeartbeats 30000000
namespace Go.Proofs.YtlgipkemoldckaaGreatDoor
open Go.RowKit Go.Sort Go.Shelf
attribute [local go_sem] Z4.alloc Z4.drew Z4.setCell
instance:Inhabited Atr:=⟨⟨⟨#[]⟩,⟨#[]⟩⟩⟩
def Atr.val (x:Atr):Value:=.agg #[.string x.name,.string x.value]
theorem Qt (x y:Atr) (w:World) :
  Calls Tryz.prog 99 #[.agg x.cells.toArray,.agg y.cells.toArray] w fun e w'=>e=.returned (.int .i64 (Yw x.name y.name))∧∃ q os',w'=grow (w.drewN q) os':=by
 unfold Atr.cells
 go_enter Tryz.func99,Tryz.ntmps99
 go_wp2_with (go_at_call 62;refine (Vz _ _ _).mono ?_;rintro e w' ⟨rfl,rfl⟩)
 go_ret
 exact ⟨rfl,0,_,by rw[alloc_eq_grow,alloc_eq_grow,grow_grow];rfl⟩
theorem Tm {base:Nat} {w:World} {v:Value} {l:List Atr} (h:Own Atr.cells 2 73 base w v l) (hl:l.length<4611686018427387904) :
  Calls Tryz.prog 60 #[v,.func (.func 99) #[] #[]] w fun e w'=>e=.returned (.tuple #[])∧∃ l',l'.Perm l∧l'.Pairwise (fun a b=>ltOf (fun x y:Atr=>Yw x.name y.name) b a=false)∧Own Atr.cells 2 73 base w' v l'∧Ext (fun b=>v.ownBlock=some b) w w':=by
 have eg:∀ args w,(callFunc 99 args).run Tryz.prog w=.ok (.enter 99 args) w:=enters_of Tryz.func99 (by kernel_rfl) rfl
 refine Tn (fun _=>rfl) (by omega) (fun blk cap d w hH hb hs=>?_) (fun p cap w=>?_) h hl
 ·exact AnyQ.slices_SortFunc Tryz.sortAttr 2 Tryz.isAgg73 Tryz.sizeOf73 Atr.cells (fun _=>rfl) (fun x v hv=>by simp[Atr.cells] at hv;rcases hv with rfl|rfl <;> rfl) (fun x y=>Yw x.name y.name) Qj 99 #[] blk 0 cap d w eg (fun _ _ _ _ x y=>Qt x y _) hH hb hs
 ·exact AnyF.slices_SortFunc_none Tryz.sortAttr p cap _ w
def Y3 (F:List Z9) (i:Int):List (ByteArray × Atr):=F.foldl (fun h x=>if x.lo≤i∧i<x.hi then Zw h x.op.name ⟨x.op.name,x.op.value⟩ else h) []
theorem Rj (F:List Z9) (x:Z9) (i:Int):Y3 (F++[x]) i=if x.lo≤i∧i<x.hi then Zw (Y3 F i) x.op.name ⟨x.op.name,x.op.value⟩ else Y3 F i:=by simp[Y3]
def ZW (vs:List (ByteArray × Atr)):List Atr:=(vs.map (·.2)).filter fun a=>decide (a.value≠⟨#[]⟩)
theorem WH (a b:List (ByteArray × Atr)):ZW (a++b)=ZW a++ZW b:=by simp[ZW]
theorem TE {a b:List (ByteArray × Atr)} (h:a.Perm b):(ZW a).Perm (ZW b):=(h.map _).filter _
theorem Us (a:List (ByteArray × Atr)):(ZW a).length≤a.length:=by
 have:=List.length_filter_le (fun a:Atr=>decide (a.value≠⟨#[]⟩)) (a.map (·.2))
 rwa [List.length_map] at this
theorem Vb (i:Int):∀ (F:List Z9) (h:List (ByteArray × Atr)),(F.foldl (fun h x=>if x.lo≤i∧i<x.hi then Zw h x.op.name (⟨x.op.name,x.op.value⟩:Atr) else h) h).length≤h.length+F.length
 | [],h=>by simp
 | x :: F,h=>by
  rw[List.foldl_cons,List.length_cons]
  refine Nat.le_trans (Vb i F _) ?_
  split
  ·have:=Ui h x.op.name (⟨x.op.name,x.op.value⟩:Atr)
   omega
  ·omega
theorem QH (F:List Z9) (i:Int):(Y3 F i).length≤F.length:=by
 have:=Vb i F []
 simpa [Y3] using this
theorem Th:Tryz.prog.underlying 186=some (.map 9 73):=by kernel_rfl
theorem V5:Xc Tryz.prog 183 28:=⟨fun w=>by kernel_rfl,fun w=>by kernel_rfl⟩
def QZ (w:World) (B it mv:Nat) (vs:List (ByteArray × Atr)) (k:Nat) (v:Value) (wr:World):Prop :=
 ∃ left dn cur,(dn++left).Perm vs∧k=left.length∧ZD Value.string Atr.val wr it mv vs left cur∧Own Atr.cells 2 73 B wr v (ZW dn)∧Below w.heap.size w wr∧B≤wr.heap.size
theorem QT (v:Value) (F:List Z9) (i:Int) (w:World) (hF:Z6 Z9.cells 28 w v F) (hn:F.length≤1000) :
  Calls Tryz.prog 69 #[v,.int .i64 i] w
   fun e w'=>∃ u l',e=.returned u∧Own Atr.cells 2 73 w.heap.size w' u l'∧l'.Perm (ZW (Y3 F i))∧l'.Pairwise (fun a b=>ltOf (fun x y:Atr=>Yw x.name y.name) b a=false)∧Below w.heap.size w w':=by
 obtain ⟨va,vc,rfl,hcap,hmax,hcs⟩:=id hF
 unfold maxLen at hmax
 have hmm:=@run_makeMap Tryz.prog
 have HC:=Lib.hid hcs
 clear hcs
 have m0:Z4 Value.string Atr.val (w.alloc (.map #[] 0)) w.heap.size []:=Z4.made w
 have B0:Below w.heap.size w (w.alloc (.map #[] 0)):=(Below.refl _ _).alloc (Nat.le_refl _) _
 have z0:w.heap.size<(w.alloc (.map #[] 0)).heap.size:=by simp
 go_enter Tryz.func69,Tryz.ntmps69
 go_wp2_with fail
 go_loopg [14] F.length (fun g iv wr=>∃ k:Nat,g=F.length - k∧k≤F.length∧iv=.int .i64 k∧Z4 Value.string Atr.val wr w.heap.size (Y3 (F.take k) i)∧Below w.heap.size w wr)
 case atStart=>exact ⟨0,by omega,by omega,rfl,by simpa [Y3] using m0,B0⟩
 case round =>
  clear m0 B0 z0
  obtain ⟨k,hg,hk,rfl,hM,hB⟩:=hrel
  have hMl:=hM.lt
  by_cases hkl:k<F.length
  ·obtain ⟨x,hx⟩:∃ x,F[k]?=some x:=⟨_,List.getElem?_eq_getElem hkl⟩
   have hne:F≠[]:=by intro e;rw[e] at hx;simp at hx
   obtain ⟨b,o,rfl,hcc⟩:=HC.out hne
   have hb0:∀ j u,(Z9.cells x)[j]?=some u→wr.cell? ⟨b,o+k*28+j,none⟩=some u:=fun j u h=>by
    have h1:=hcc k x hx j u h
    exact (World.cell?_of_block (w:=w) (hB.block b (Zy h1))).trans h1
   have HLD:=Jh (WI (P:=Tryz.prog) V5 (Z9.len x) hb0)
   have hkk:(k:Int)<(F.length:Int):=by omega
   have q18:(wr.alloc (.cells (Z9.cells x).toArray 183)).cell? ⟨wr.heap.size,18,none⟩=some (.string x.op.name):=Yv 18 _ rfl
   have q19:(wr.alloc (.cells (Z9.cells x).toArray 183)).cell? ⟨wr.heap.size,19,none⟩=some (.string x.op.value):=Yv 19 _ rfl
   have q26:(wr.alloc (.cells (Z9.cells x).toArray 183)).cell? ⟨wr.heap.size,26,none⟩=some (.int .i64 x.lo):=Yv 26 _ rfl
   have q27:(wr.alloc (.cells (Z9.cells x).toArray 183)).cell? ⟨wr.heap.size,27,none⟩=some (.int .i64 x.hi):=Yv 27 _ rfl
   have hupd:∀ W,Z4 Value.string Atr.val W w.heap.size (Y3 (F.take k) i)→(Instr.mapUpdate 186 (.map (some w.heap.size)) (.string x.op.name) (.agg #[.string x.op.name,.string x.op.value])).run Tryz.prog W=.ok () (Zo W w.heap.size (Zv (Y3 (F.take k) i) x.op.name) (.string x.op.name) (.agg #[.string x.op.name,.string x.op.value])):=fun W hW=>hW.update R6 Th x.op.name _
   have hsn:Y3 (F.take (k+1)) i=if x.lo≤i∧i<x.hi then Zw (Y3 (F.take k) i) x.op.name ⟨x.op.name,x.op.value⟩ else Y3 (F.take k) i:=by
    rw[List.take_add_one,hx,Option.toList_some,Rj]
   have HSN:=Lib.hid hsn
   have HP:=Jh ((hM.alloc (.cells (Z9.cells x).toArray 183)).put x.op.name ⟨x.op.name,x.op.value⟩)
   have HB:=Jh (hB.alloc hB.size (.cells (Z9.cells x).toArray 183))
   have HG:=Lib.hid hg
   clear hcc hb0 hsn hB hg
   by_cases h1:x.lo≤i
   ·by_cases h2:i<x.hi
    ·go_wp2_with (first
      | refine Xk (o:=⟨some 17,_,_,_,_,_⟩) rfl rfl rfl HLD.out ?_
      | refine Xd (T:=183) rfl rfl rfl rfl (YK V5 rfl (Z9.len x) (Z9.one x)) ?_)
     go_roundg (F.length - (k+1))
     case measure=>rw[HG.out];omega
     case rel=>exact ⟨k+1,rfl,by omega,by simp,by rw[HSN.out,if_pos ⟨h1,h2⟩];exact HP.out,Ext.new HB.out (YE _ _ _ _ _) (fun j hj _ e=>by omega) (by simp;omega)⟩
    ·go_wp2_with (first
      | refine Xk (o:=⟨some 17,_,_,_,_,_⟩) rfl rfl rfl HLD.out ?_
      | refine Xd (T:=183) rfl rfl rfl rfl (YK V5 rfl (Z9.len x) (Z9.one x)) ?_)
     go_roundg (F.length - (k+1))
     case measure=>rw[HG.out];omega
     case rel=>exact ⟨k+1,rfl,by omega,by simp,by rw[HSN.out,if_neg (fun h=>by obtain ⟨_,_⟩:=h;omega)];exact hM.alloc _,HB.out⟩
   ·go_wp2_with (first
      | refine Xk (o:=⟨some 17,_,_,_,_,_⟩) rfl rfl rfl HLD.out ?_
      | refine Xd (T:=183) rfl rfl rfl rfl (YK V5 rfl (Z9.len x) (Z9.one x)) ?_)
    go_roundg (F.length - (k+1))
    case measure=>rw[HG.out];omega
    case rel=>exact ⟨k+1,rfl,by omega,by simp,by rw[HSN.out,if_neg (fun h=>by obtain ⟨_,_⟩:=h;omega)];exact hM.alloc _,HB.out⟩
  ·obtain rfl:k=F.length:=by omega
   rw[List.take_length] at hM
   obtain ⟨w1,hrange,hit,hb1,hz1⟩:=hM.range (P:=Tryz.prog) Th
   have HB:=Jh (hB.trans (hb1.mono (hB.size)))
   obtain ⟨it,hit0⟩:=Je (wr.heap.size)
   rw[hit0] at hit hrange hz1 hMl
   have HZ:=Lib.hid hz1
   clear hM hB hb1 hz1
   have hml:=QH F i
   obtain ⟨vs,hvs⟩:=Je (Y3 F i)
   rw[hvs] at hit hml
   have HVS:=Lib.hid hvs
   clear hvs
   obtain ⟨i0,hi,hz0,hz1',hz2⟩:=info_parts UD
   clear hF HC hcap hmax hmm
   go_wp2_with fail
   go_loopg [8] vs.length (fun g v wx=>QZ w (it+1) it w.heap.size vs g v wx)
   case atStart=>exact ⟨vs,[],none,List.Perm.refl _,rfl,hit,Own.nil,HB.out,by rw[HZ.out];exact Nat.le_refl _⟩
   case round =>
    clear hit hrange
    obtain ⟨left,dn,cur,hperm,hk2,hiter,hown,hB,hBs⟩:=hrel
    rcases hiter.next (P:=Tryz.prog) (by omega) with ⟨hnil,hnx⟩|⟨t,p,w2,hip,hnx,hiter2,hx2,hs2⟩
    ·have HN:=Lib.hid hnil
     clear hk2 hnil
     go_wp2_with fail
     refine (Tm hown (by have:=Us dn;have:=hperm.length_eq;simp at this;omega)).mono ?_
     rintro e w3 ⟨rfl,l',hl1,hl2,hl3,hx3⟩
     have hb3:Below w.heap.size w w3:=Ext.new hB hx3 (fun j hj _ e=>by have:=(hown.blk j e).1;omega) (by omega)
     have hp3:l'.Perm (ZW vs):=by
      rw[HN.out,List.append_nil] at hperm
      exact hl1.trans (TE hperm)
     have hl4:=hl3.mono (b':=w.heap.size) (by omega)
     have HL2:=Lib.hid hl2
     have HP3:=Lib.hid hp3
     have HB3:=Lib.hid hb3
     have HL4:=Lib.hid hl4
     clear hp3 hb3 hl1 hl2 hl3 hl4 hx3 hown hperm hnx hiter
     go_wp2_with fail
     go_ret
     exact ⟨_,l',rfl,HL4.out,by rw[HVS.out];exact HP3.out,HL2.out,HB3.out⟩
    ·obtain ⟨pn,⟨xn,xval⟩⟩:=p
     simp only[Atr.val] at hnx
     have hen:∀ W,ZD Value.string Atr.val W it w.heap.size vs (left.eraseIdx t) (some (pn,⟨xn,xval⟩))→(Instr.entry (.pointer (some ⟨it,0,none⟩))).run Tryz.prog W=.ok (.tuple #[.string pn,.agg #[.string xn,.string xval]]) W:=fun W hW=>hW.entry
     have HK:=Lib.hid hk2
     have HS:=Lib.hid hs2
     have HI:=Lib.hid hip
     clear hk2 hs2 hip
     have hown2:=hown.ext hx2 (fun b hb e=>by have:=(hown.blk b hb).1;omega)
     have hB2:Below w.heap.size w w2:=Ext.new hB hx2 (fun j hj _ e=>by omega) (by omega)
     have hs2:it+1≤w2.heap.size:=by rw[HS.out];exact hBs
     have hlen:=Us dn
     have hlen2:=hperm.length_eq
     rw[List.length_append] at hlen2
     have hlen3:(ZW dn).length≤1099511627776:=by omega
     have hper2:((dn++[((pn,⟨xn,xval⟩):ByteArray × Atr)])++left.eraseIdx t).Perm vs:=by
      rw[List.append_assoc]
      exact (List.Perm.append_left dn (XE HI.out).symm).trans hperm
     have hk3:(left.eraseIdx t).length<left.length:=by
      rw[List.length_eraseIdx]
      have:=(List.getElem?_eq_some_iff.1 HI.out).1
      rw[if_pos this];omega
     rw[←HK.out] at hk3
     have HK3:=Lib.hid hk3
     have HP:=Lib.hid hper2
     clear hlen hlen2 hperm hper2 hown hB hiter hx2 hBs hk3
     by_cases hv:xval=⟨#[]⟩
     ·have ha:ZW (dn++[((pn,⟨xn,xval⟩):ByteArray × Atr)])=ZW dn:=by rw[WH];simp[ZW,hv]
      have HA:=Lib.hid ha
      clear ha
      subst hv
      go_wp2_with fail
      go_roundg (left.eraseIdx t).length
      case measure=>exact HK3.out
      case rel=>exact ⟨left.eraseIdx t,_,_,HP.out,rfl,hiter2.alloc _,by rw[HA.out];exact hown2.alloc _,hB2.alloc (by omega) _,by simp;omega⟩
     ·have ha:ZW (dn++[((pn,⟨xn,xval⟩):ByteArray × Atr)])=ZW dn++[⟨xn,xval⟩]:=by rw[WH];simp[ZW,hv]
      have HA:=Lib.hid ha
      have hv1:(xval.toList == [])=false:=by
       cases h:(xval.toList == []) with
       | false=>rfl
       | true=>exact absurd ((ZT xval ⟨#[]⟩).1 (by simpa using eq_of_beq h)) hv
      have hv2:(xval == ⟨#[]⟩)=false:=by rw[YM];simp[hv]
      clear ha
      go_wp2_with (at_builtin;refine YC rfl _ _ _ rfl i0 (.agg #[.string ⟨#[]⟩,.string ⟨#[]⟩]) 32 Tryz.underlying24 hi hz0 hz1' hz2 rfl (by omega) (fun _=>rfl) (fun x u hu=>by simp[Atr.cells] at hu;rcases hu with rfl|rfl <;> rfl) rfl ((hown2.alloc _).alloc _) ⟨xn,xval⟩ (w2.heap.size+1) 1 rfl ?_ (by unfold maxLen;omega) (by omega) (by simp;omega) ?_)
      ·intro j u hj
       have hju:(j=0∧u=.string xn)∨(j=1∧u=.string xval):=by
        match j,hj with
        | 0,hj=>simp[Atr.cells] at hj;exact .inl ⟨rfl,hj.symm⟩
        | 1,hj=>simp[Atr.cells] at hj;exact .inr ⟨rfl,hj.symm⟩
        | n+2,hj=>simp[Atr.cells] at hj
       rcases hju with ⟨rfl,rfl⟩|⟨rfl,rfl⟩ <;> go_simp
      ·intro v' w3 hown3 hx3
       go_wp2_with fail
       go_roundg (left.eraseIdx t).length
       case measure=>exact HK3.out
       case rel =>
        have hne:∀ b,u8.ownBlock=some b→it+1≤b:=fun b hb=>(hown2.blk b hb).1
        refine ⟨left.eraseIdx t,_,_,HP.out,rfl,((hiter2.alloc _).alloc _).ext hx3 (fun e=>by have:=hne _ e;omega) (fun e=>by have:=hne _ e;omega),by rw[HA.out];exact hown3,?_,?_⟩
        ·exact Ext.new ((hB2.alloc (by omega) _).alloc (by simp;omega) _) hx3 (fun b hb _ e=>by have:=hne _ e;omega) (by simp;omega)
        ·have:=hx3.size;simp at this;omega
structure Sl where
 a:Option Addr
 n:Nat
 cap:Nat
def Sl.val (s:Sl):Value:=.slice s.a s.n s.cap
theorem Own.sl {α:Type} {ea:α→List Value} {k:Nat} {e:TypeId} {base:Nat} {w:World} {v:Value} {l:List α} (h:Own ea k e base w v l):∃ s:Sl,v=.slice s.a s.n s.cap:=by
 rcases h.eq_slice with ⟨rfl,_⟩|⟨g,c,rfl,_,_⟩
 ·exact ⟨⟨none,0,0⟩,rfl⟩
 ·exact ⟨⟨_,_,_⟩,rfl⟩
theorem Own.apart {α β:Type} {ea:α→List Value} {eb:β→List Value} {k k':Nat} {e e':TypeId} {base base':Nat} {w:World} {v u:Value} {l:List α} {l':List β} (h:Own ea k e base w v l) (h':Own eb k' e' base' w u l') (hne:e≠e'):∀ b,v.ownBlock=some b→¬ u.ownBlock=some b:=by
 intro b hb hb'
 obtain ⟨c1,h1⟩:=h.tag hb
 obtain ⟨c2,h2⟩:=h'.tag hb'
 rw[h1] at h2
 simp only[Option.some.injEq,Obj.cells.injEq] at h2
 exact hne h2.2.1
def QJ (F:List Z9) (i:Int) (al:List Atr):Prop:=al.Perm (ZW (Y3 F i))∧al.Pairwise (fun a b=>ltOf (fun x y:Atr=>Yw x.name y.name) b a=false)
end Go.Proofs.YtlgipkemoldckaaGreatDoor
namespace Go.Proofs.YtlgipkemoldckaaGreatDoor
open Go.RowKit
def Xb (h:Zz):Prop:=∀ k c,h k=some c→c.block=k
def Yf (h:Zz) (l:List Ch):Prop:=(∀ c,c∈l↔h c.block=some c)∧l.Pairwise (fun a b=>Yh a.block b.block)
def Yt (a b:Ch):Prop:=YA a<YA b∨(YA a=YA b∧Yh a.block b.block)
def XR (h:Zz) (u:St) (l:List Ch):Prop:=(∀ c,c∈l↔h c.block=some c∧c.under=u)∧l.Pairwise Yt
theorem XP (a:Ch):¬ Yt a a:=by
 rintro (h|⟨_,h⟩)
 ·exact List.lt_irrefl _ h
 ·exact Y0 _ h
theorem Vd {a b c:Ch} (h:Yt a b) (k:Yt b c):Yt a c:=by
 rcases h with h|⟨e,h⟩ <;> rcases k with k|⟨e2,k⟩
 ·exact .inl (List.lt_trans h k)
 ·exact .inl (by rw[←e2];exact h)
 ·exact .inl (by rw[e];exact k)
 ·exact .inr ⟨e.trans e2,Ys h k⟩
theorem S1 (a b:Ch):Yt a b∨a.block=b.block∨Yt b a:=by
 by_cases h1:YA a<YA b
 ·exact .inl (.inl h1)
 ·by_cases h2:YA b<YA a
  ·exact .inr (.inr (.inl h2))
  ·have e:=VK _ _ h1 h2
   rcases YV a.block b.block with t|t|t
   ·exact .inl (.inr ⟨e,t⟩)
   ·exact .inr (.inl t)
   ·exact .inr (.inr (.inr ⟨e.symm,t⟩))
theorem Xa {α:Type} {R:α→α→Prop} (irr:∀ a,¬ R a a) (tr:∀ a b c,R a b→R b c→R a c):∀ {l l':List α},l.Pairwise R→l'.Pairwise R→(∀ x,x∈l↔x∈l')→l=l'
 | [],[],_,_,_=>rfl
 | [],y :: l',_,_,h=>absurd ((h y).2 (List.mem_cons_self ..)) (by simp)
 | x :: l,[],_,_,h=>absurd ((h x).1 (List.mem_cons_self ..)) (by simp)
 | x :: l,y :: l',h1,h2,h=>by
  rw[List.pairwise_cons] at h1 h2
  have e:x=y:=by
   rcases List.mem_cons.1 ((h x).1 (List.mem_cons_self ..)) with e|e
   ·exact e
   ·rcases List.mem_cons.1 ((h y).2 (List.mem_cons_self ..)) with e'|e'
    ·exact e'.symm
    ·exact absurd (tr _ _ _ (h2.1 x e) (h1.1 y e')) (irr _)
  subst e
  congr 1
  refine Xa irr tr h1.2 h2.2 fun z=>?_
  constructor
  ·intro hz
   rcases List.mem_cons.1 ((h z).1 (List.mem_cons_of_mem _ hz)) with e|e
   ·rw[e] at hz;exact absurd (h1.1 x hz) (irr _)
   ·exact e
  ·intro hz
   rcases List.mem_cons.1 ((h z).2 (List.mem_cons_of_mem _ hz)) with e|e
   ·rw[e] at hz;exact absurd (h2.1 x hz) (irr _)
   ·exact e
theorem Yf.unique {h:Zz} {l l':List Ch} (a:Yf h l) (b:Yf h l'):l=l' :=
 Xa (R:=fun a b:Ch=>Yh a.block b.block) (fun x=>Y0 x.block) (fun _ _ _ h k=>Ys h k) a.2 b.2 fun c=>(a.1 c).trans (b.1 c).symm
theorem XR.unique {h:Zz} {u:St} {l l':List Ch} (a:XR h u l) (b:XR h u l'):l=l' :=
 Xa XP (fun _ _ _ h k=>Vd h k) a.2 b.2 fun c=>(a.1 c).trans (b.1 c).symm
end Go.Proofs.YtlgipkemoldckaaGreatDoor
namespace Go.Proofs.YtlgipkemoldckaaGreatDoor
open Go.RowKit Go.Sort Go.Shelf
def Cov (l:List El) (o:OpD) (i:Int):Prop:=∃ p q,YS l o.fr=some p∧YS l o.tr=some q∧(p:Int)+(if o.fa=true then 1 else 0)≤i∧i<(q:Int)+(if o.ta=true then 1 else 0)
def Win (l:List El) (ms:List OpD) (i:Int) (n:ByteArray) (k:Nat) (o:OpD):Prop :=
 ms[k]?=some o∧Cov l o i∧o.name=n∧∀ j o',ms[j]?=some o'→Cov l o' i→o'.name=n→Yh o'.id o.id∨(o'.id=o.id∧k≤j)
theorem Win.unique {l:List El} {ms:List OpD} {i:Int} {n:ByteArray} {k k':Nat} {o o':OpD} (h:Win l ms i n k o) (h':Win l ms i n k' o'):k=k'∧o=o':=by
 obtain ⟨a1,a2,a3,a4⟩:=h
 obtain ⟨b1,b2,b3,b4⟩:=h'
 have hk:k=k':=by
  rcases a4 k' o' b1 b2 b3 with c|⟨c1,c2⟩ <;> rcases b4 k o a1 a2 a3 with d|⟨d1,d2⟩
  ·exact absurd (Ys c d) (Y0 _)
  ·rw[d1] at c;exact absurd c (Y0 _)
  ·rw[c1] at d;exact absurd d (Y0 _)
  ·omega
 subst hk
 rw[a1] at b1
 exact ⟨rfl,Option.some.inj b1⟩
theorem WY {h:List (St × Int)} {o:OpD} {m:Z9} (hm:ZV h o=some m):m.op=o:=by
 unfold ZV at hm
 split at hm
 ·cases hm;rfl
 ·cases hm
theorem R8 {l:List El} {o:OpD} {m:Z9} (hm:ZV (Zp (Zb l)) o=some m) (i:Int):(m.lo≤i∧i<m.hi)↔Cov l o i:=by
 unfold ZV at hm
 split at hm
 ·rename_i hc
  cases hm
  simp only[W5,Option.isSome_map,Bool.and_eq_true] at hc
  obtain ⟨p,hp⟩:=Option.isSome_iff_exists.1 hc.1
  obtain ⟨q,hq⟩:=Option.isSome_iff_exists.1 hc.2
  simp only[atI,W5,hp,hq,Option.map_some,Option.getD_some]
  constructor
  ·intro h
   exact ⟨p,q,hp,hq,h.1,h.2⟩
  ·rintro ⟨p',q',hp',hq',h1,h2⟩
   rw[hp] at hp'
   rw[hq] at hq'
   cases hp'
   cases hq'
   exact ⟨h1,h2⟩
 ·cases hm
theorem VF {l:List El} {o:OpD} {i:Int} (h:Cov l o i):∃ m,ZV (Zp (Zb l)) o=some m:=by
 obtain ⟨p,q,hp,hq,_⟩:=h
 exact ⟨_,if_pos (by simp[W5,hp,hq])⟩
def Ub (h:List (St × Int)) (pre:List (Nat × OpD)):List (Z9 × Nat):=pre.filterMap fun p=>(ZV h p.2).map fun m=>(m,p.1)
theorem Qu (h:List (St × Int)) (pre:List (Nat × OpD)):(Ub h pre).map (·.1)=Y1 h pre:=by
 unfold Ub Y1
 rw[List.map_filterMap]
 congr 1
 funext p
 cases ZV h p.2 <;> rfl
theorem Vj {α:Type} {l:List α} {k:Nat} {x:α}:(k,x)∈Zb l↔l[k]?=some x:=by
 unfold Zb
 rw[List.mem_reverse,List.mem_map]
 constructor
 ·rintro ⟨⟨y,j⟩,h,e⟩
  cases e
  exact List.mem_zipIdx_iff_getElem?.1 h
 ·intro h
  exact ⟨(x,k),List.mem_zipIdx_iff_getElem?.2 h,rfl⟩
theorem Sf {α:Type} (l:List α):(Zb l).Pairwise (fun a b=>b.1<a.1):=by
 unfold Zb
 rw[List.pairwise_reverse,List.pairwise_map]
 rw[List.pairwise_iff_getElem]
 intro i j hi hj hij
 simp only[List.getElem_zipIdx]
 omega
theorem Qp {h:List (St × Int)} {ms:List OpD} {m:Z9} {k:Nat}:(m,k)∈Ub h (Zb ms)↔∃ o,ms[k]?=some o∧ZV h o=some m:=by
 unfold Ub
 rw[List.mem_filterMap]
 constructor
 ·rintro ⟨⟨j,o⟩,h1,h2⟩
  cases hm:ZV h o with
  | none=>simp[hm] at h2
  | some m' =>
   simp[hm] at h2
   obtain ⟨rfl,rfl⟩:=h2
   exact ⟨o,Vj.1 h1,hm⟩
 ·rintro ⟨o,h1,h2⟩
  exact ⟨(k,o),Vj.2 h1,by simp[h2]⟩
theorem Q9 (h:List (St × Int)) (ms:List OpD):(Ub h (Zb ms)).Pairwise (fun a b=>b.2<a.2):=by
 unfold Ub
 rw[List.pairwise_filterMap]
 refine (Sf ms).imp ?_
 intro a b hab x hx y hy
 cases ha:ZV h a.2 with
 | none=>simp[ha] at hx
 | some m =>
  cases hb:ZV h b.2 with
  | none=>simp[hb] at hy
  | some m' =>
   simp[ha] at hx
   simp[hb] at hy
   subst hx
   subst hy
   exact hab
theorem YR.carry {α κ:Type} {klt:κ→κ→Prop} {key:α→κ} {L:List (α × Nat)} {l':List α} (h:YR klt key (L.map (·.1)) l') (hd:L.Pairwise (fun a b=>b.2<a.2)) :
  ∃ G:List (α × Nat),G.Perm L∧G.Pairwise (fun a b=>klt (key a.1) (key b.1)∨(key a.1=key b.1∧b.2<a.2))∧l'=G.map (·.1):=by
 obtain ⟨G,h1,h2,rfl⟩:=h
 have hz:((L.map (·.1)).zipIdx.map fun p=>(p.1,(L[p.2]?.map (·.2)).getD 0))=L:=by
  refine List.ext_getElem (by simp) fun i hi1 hi2=>?_
  simp[List.getElem?_eq_getElem hi2]
 refine ⟨G.map fun p=>(p.1,(L[p.2]?.map (·.2)).getD 0),?_,?_,by rw[List.map_map];rfl⟩
 ·rw[←hz]
  simpa [hz] using h1.map fun p=>(p.1,(L[p.2]?.map (·.2)).getD 0)
 ·rw[List.pairwise_map]
  refine h2.imp_of_mem fun {a b} ha hb hab=>?_
  rcases hab with hab|⟨e,hab⟩
  ·exact .inl hab
  ·refine .inr ⟨e,?_⟩
   have ha':=List.mem_zipIdx_iff_getElem?.1 (h1.mem_iff.1 ha)
   have hb':=List.mem_zipIdx_iff_getElem?.1 (h1.mem_iff.1 hb)
   rw[List.getElem?_map] at ha' hb'
   obtain ⟨x,hx,_⟩:=Option.map_eq_some_iff.1 ha'
   obtain ⟨y,hy,_⟩:=Option.map_eq_some_iff.1 hb'
   obtain ⟨hi,hx'⟩:=List.getElem?_eq_some_iff.1 hx
   obtain ⟨hj,hy'⟩:=List.getElem?_eq_some_iff.1 hy
   have:=List.pairwise_iff_getElem.1 hd a.2 b.2 hi hj hab
   simp only[hx,hy,Option.map_some,Option.getD_some]
   rw[←hx',←hy']
   exact this
theorem VH {α:Type} (p:α→Bool):∀ L:List α,(∀ y∈L,p y=false)∨∃ A x B,L=A++x :: B∧p x=true∧∀ y∈B,p y=false
 | []=>.inl (by simp)
 | x :: L=>by
  rcases VH p L with h|⟨A,y,B,rfl,h1,h2⟩
  ·cases hx:p x with
   | true=>exact .inr ⟨[],x,L,rfl,hx,h⟩
   | false=>exact .inl (by simp[hx];exact h)
  ·exact .inr ⟨x :: A,y,B,rfl,h1,h2⟩
def WD (i:Int) (n:ByteArray) (x:Z9):Bool:=decide ((x.lo≤i∧i<x.hi)∧x.op.name=n)
theorem WO (i:Int) (n:ByteArray):∀ (B:List Z9) (h:List (ByteArray × Atr)),(∀ y∈B,WD i n y=false) →
  Z3 (B.foldl (fun h x=>if x.lo≤i∧i<x.hi then Zw h x.op.name (⟨x.op.name,x.op.value⟩:Atr) else h) h) n=Z3 h n
 | [],h,_=>rfl
 | x :: B,h,hy=>by
  rw[List.foldl_cons,WO i n B _ (fun y hy'=>hy y (List.mem_cons_of_mem _ hy'))]
  have hx:=hy x (List.mem_cons_self ..)
  simp only[WD,decide_eq_false_iff_not] at hx
  split
  ·rename_i hc
   exact ZF _ _ (fun e=>hx ⟨hc,e⟩)
  ·rfl
theorem RL {i:Int} {n:ByteArray} {F:List Z9} (h:∀ y∈F,WD i n y=false):Z3 (Y3 F i) n=none:=by
 unfold Y3
 rw[WO i n F [] h]
 rfl
theorem Rm {i:Int} {n:ByteArray} {A B:List Z9} {x:Z9} (hx:WD i n x=true) (h:∀ y∈B,WD i n y=false):Z3 (Y3 (A++x :: B) i) n=some ⟨x.op.name,x.op.value⟩:=by
 unfold Y3
 rw[List.foldl_append,List.foldl_cons,WO i n B _ h]
 simp only[WD,decide_eq_true_eq] at hx
 rw[if_pos hx.1,←hx.2,ZX]
theorem Qa {l:List El} {ms:List OpD} {F:List Z9} (hF:YR Yh Uh (Y1 (Zp (Zb l)) (Zb ms)) F) (i:Int) (n:ByteArray) (a:Atr) :
  Z3 (Y3 F i) n=some a↔∃ k o,Win l ms i n k o∧a=⟨o.name,o.value⟩:=by
 rw[←Qu] at hF
 obtain ⟨G,h1,h2,rfl⟩:=hF.carry (Q9 _ ms)
 have hmem:∀ m k,(m,k)∈G↔∃ o,ms[k]?=some o∧ZV (Zp (Zb l)) o=some m:=fun m k=>h1.mem_iff.trans Qp
 have hhit:∀ {m:Z9} {o:OpD},ZV (Zp (Zb l)) o=some m→(WD i n m=true↔Cov l o i∧o.name=n):=fun {m o} hm=>by
  unfold WD
  rw[decide_eq_true_eq,R8 hm,WY hm]
 rcases VH (fun p:Z9 × Nat=>WD i n p.1) G with h|⟨A,⟨x,k⟩,B,rfl,hx,hB⟩
 ·rw[RL (fun y hy=>by obtain ⟨p,hp,rfl⟩:=List.mem_map.1 hy;exact h p hp)]
  constructor
  ·intro e;cases e
  ·rintro ⟨k,o,⟨w1,w2,w3,_⟩,_⟩
   obtain ⟨m,hm⟩:=VF w2
   have:=h (m,k) ((hmem m k).2 ⟨o,w1,hm⟩)
   rw[(hhit hm).2 ⟨w2,w3⟩] at this
   cases this
 ·rw[List.map_append,List.map_cons,Rm hx (fun y hy=>by obtain ⟨p,hp,rfl⟩:=List.mem_map.1 hy;exact hB p hp)]
  obtain ⟨o,ho,hm⟩:=(hmem x k).1 (by simp)
  have hop:=WY hm
  have hxc:=(hhit hm).1 hx
  have hw:Win l ms i n k o:=by
   refine ⟨ho,hxc.1,hxc.2,fun j o' hj hc hn=>?_⟩
   obtain ⟨m',hm'⟩:=VF hc
   have hj':=(hmem m' j).2 ⟨o',hj,hm'⟩
   rw[List.mem_append,List.mem_cons] at hj'
   rcases hj' with hj'|hj'|hj'
   ·have:=(List.pairwise_append.1 h2).2.2 _ hj' _ (List.mem_cons_self ..)
    simp only[Uh,hop,WY hm'] at this
    rcases this with t|⟨t1,t2⟩
    ·exact .inl t
    ·exact .inr ⟨t1,by omega⟩
   ·cases hj'
    rw[ho] at hj
    cases hj
    exact .inr ⟨rfl,Nat.le_refl _⟩
   ·have:=hB _ hj'
    rw[(hhit hm').2 ⟨hc,hn⟩] at this
    cases this
  rw[hop]
  constructor
  ·intro e
   exact ⟨k,o,hw,(Option.some.inj e).symm⟩
  ·rintro ⟨k',o',hw',rfl⟩
   obtain ⟨_,rfl⟩:=hw.unique hw'
   rfl
def V0 (al:List Atr):Prop:=al.Pairwise fun a b=>a.name.toList<b.name.toList
theorem V0.unique {a b:List Atr} (ha:V0 a) (hb:V0 b) (h:∀ x,x∈a↔x∈b):a=b :=
 Xa (R:=fun a b:Atr=>a.name.toList<b.name.toList) (fun a=>List.lt_irrefl _) (fun _ _ _ h k=>List.lt_trans h k) ha hb h
def Vv (l:List El) (ms:List OpD) (i:Int) (al:List Atr):Prop:=V0 al∧∀ a,a∈al↔a.value≠⟨#[]⟩∧∃ k o,Win l ms i a.name k o∧a.value=o.value
theorem Vv.unique {l:List El} {ms:List OpD} {i:Int} {a b:List Atr} (ha:Vv l ms i a) (hb:Vv l ms i b):a=b:=ha.1.unique hb.1 fun x=>(ha.2 x).trans (hb.2 x).symm
theorem Sx {l:List El} {ms:List OpD} {F:List Z9} (hF:YR Yh Uh (Y1 (Zp (Zb l)) (Zb ms)) F) {i:Int} {al:List Atr} (h:QJ F i al) (hk:(Y3 F i).map (·.1) |>.Nodup):Vv l ms i al:=by
 obtain ⟨h1,h2⟩:=h
 have hwin:=Qa hF i
 have hnm:∀ p∈Y3 F i,p.2.name=p.1:=fun p hp=>by
  obtain ⟨k,o,hw,e⟩:=(hwin p.1 p.2).1 (Vh hk hp)
  rw[e]
  exact hw.2.2.1
 have hm:∀ a,a∈al↔a.value≠⟨#[]⟩∧∃ k o,Win l ms i a.name k o∧a.value=o.value:=fun a=>by
  rw[h1.mem_iff]
  unfold ZW
  rw[List.mem_filter,List.mem_map,decide_eq_true_eq]
  constructor
  ·rintro ⟨⟨p,hp,rfl⟩,hv⟩
   refine ⟨hv,?_⟩
   obtain ⟨k,o,hw,e⟩:=(hwin p.1 p.2).1 (Vh hk hp)
   rw[hnm p hp]
   exact ⟨k,o,hw,by rw[e]⟩
  ·rintro ⟨hv,k,o,hw,e⟩
   refine ⟨⟨(a.name,a),Qr ((hwin a.name a).2 ⟨k,o,hw,?_⟩),rfl⟩,hv⟩
   obtain ⟨an,av⟩:=a
   have h3:=hw.2.2.1
   simp only at e h3 ⊢
   rw[e,h3]
 refine ⟨?_,hm⟩
 have hnd:(al.map (·.name)).Nodup:=by
  rw[(h1.map (·.name)).nodup_iff]
  unfold ZW
  have hs:(((Y3 F i).map (·.2)).filter (fun a=>decide (a.value≠⟨#[]⟩))).map (·.name) |>.Sublist (((Y3 F i).map (·.2)).map (·.name)):=(List.filter_sublist ..).map _
  refine hs.nodup ?_
  rw[List.map_map,show (Y3 F i).map ((·.name) ∘ (·.2))=(Y3 F i).map (·.1) from List.map_congr_left hnm]
  exact hk
 have hp:al.Pairwise (fun a b=>a.name≠b.name):=List.pairwise_map.1 hnd
 refine (h2.and hp).imp fun {a b} hab=>?_
 obtain ⟨x,y⟩:=hab
 simp only[ltOf,ltB,decide_eq_false_iff_not] at x
 exact Classical.byContradiction fun hn=>y ((ZT _ _).1 (VK _ _ hn x))
end Go.Proofs.YtlgipkemoldckaaGreatDoor
namespace Go.Proofs.YtlgipkemoldckaaGreatDoor
open Go.ChangeShapes Go.WideShapes Go.RowKit Go.Deep
section
variable {H:Type} {enc:TypeId × Value→H} {w:World} {base:Nat} {spare:Nat→Bool} {held:Bool}
end
end Go.Proofs.YtlgipkemoldckaaGreatDoor
namespace Go.Proofs.YtlgipkemoldckaaGreatDoor
open Go.RowKit Go.Sort Go.Shelf
theorem SZ (F:List Z9) (i:Int):((Y3 F i).map (·.1)).Nodup:=by
 unfold Y3
 have:∀ (F:List Z9) (h:List (ByteArray × Atr)),(h.map (·.1)).Nodup→((F.foldl (fun h x=>if x.lo≤i∧i<x.hi then Zw h x.op.name (⟨x.op.name,x.op.value⟩:Atr) else h) h).map (·.1)).Nodup:=by
  intro F
  induction F with
  | nil=>intro h hh;exact hh
  | cons x F ih =>
   intro h hh
   rw[List.foldl_cons]
   refine ih _ ?_
   split
   ·exact VQ h _ _ hh
   ·exact hh
 exact this F [] List.nodup_nil
end Go.Proofs.YtlgipkemoldckaaGreatDoor
namespace Go.Proofs.YtlgipkemoldckaaGreatDoor
open Go.RowKit
theorem Wv {α:Type} {a b:List α} (hl:a.length=b.length) {k:Nat} (hk:∀ j,j<k→a[j]?=b[j]?) (h:a.length≤k):a=b :=
 List.ext_getElem? fun j=>by
  by_cases hj:j<k
  ·exact hk j hj
  ·rw[List.getElem?_eq_none (by omega),List.getElem?_eq_none (by omega)]
theorem Tw (va vb:Value) (la lb:List Atr) (w:World) (ha:Z6 Atr.cells 2 w va la) (hb:Z6 Atr.cells 2 w vb lb) :
  Calls Tryz.prog 33 #[va,vb] w fun e w'=>e=.returned (.bool (decide (la=lb)))∧Below w.heap.size w w':=by
 obtain ⟨aa,capa,rfl,hca,hma,hcella⟩:=ha
 obtain ⟨ab,capb,rfl,hcb,hmb,hcellb⟩:=hb
 unfold maxLen at hma hmb
 by_cases hl:la.length=lb.length
 ·have HL:=Lib.hid hl
  have hl1:(((la.length:Nat):Int) != ((lb.length:Nat):Int))=false:=by simp[hl]
  clear hl
  go_enter Tryz.func33,Tryz.ntmps33
  go_wp2_with fail
  go_loopg [5] la.length (fun g i wr=>∃ k:Nat,g=la.length - k∧k≤la.length∧i=.int .i64 k∧Hid (∀ j,j<k→la[j]?=lb[j]?)∧Below w.heap.size w wr)
  case atStart=>exact ⟨0,rfl,Nat.zero_le _,rfl,fun j hj=>absurd hj (by omega),Below.refl _ _⟩
  case round =>
   obtain ⟨k,hg,hk,rfl,hpre,hB⟩:=hrel
   by_cases hlt:k<la.length
   ·obtain ⟨x,hx⟩:∃ x,la[k]?=some x:=⟨_,List.getElem?_eq_getElem hlt⟩
    obtain ⟨y,hy⟩:∃ y,lb[k]?=some y:=⟨_,List.getElem?_eq_getElem (by rw[←HL.out];exact hlt)⟩
    obtain ⟨b1,o1,rfl,hc1⟩:=hcella (by intro e;rw[e] at hlt;simp at hlt)
    obtain ⟨b2,o2,rfl,hc2⟩:=hcellb (by intro e;rw[e] at hy;simp at hy)
    have c10:wr.cell? ⟨b1,o1+k*2,none⟩=some (.string x.name):=Z0 hB (hc1 k x hx 0 _ rfl)
    have c11:wr.cell? ⟨b1,o1+k*2+1,none⟩=some (.string x.value):=Z0 hB (hc1 k x hx 1 _ rfl)
    have c20:wr.cell? ⟨b2,o2+k*2,none⟩=some (.string y.name):=Z0 hB (hc2 k y hy 0 _ rfl)
    have c21:wr.cell? ⟨b2,o2+k*2+1,none⟩=some (.string y.value):=Z0 hB (hc2 k y hy 1 _ rfl)
    have hlt2:k<lb.length:=(List.getElem?_eq_some_iff.1 hy).1
    have HX:=Lib.hid hx
    have HY:=Lib.hid hy
    have HG:=Lib.hid hg
    clear hx hy hg hcella hcellb hc1 hc2
    by_cases hxy:x=y
    ·subst hxy
     go_wp2_with fail
     go_region_held3 (fun W=>W.cell? ⟨b1,o1+k*2,none⟩=some (.string x.name)∧W.cell? ⟨b1,o1+k*2+1,none⟩=some (.string x.value)∧W.cell? ⟨b2,o2+k*2,none⟩=some (.string x.name)∧W.cell? ⟨b2,o2+k*2+1,none⟩=some (.string x.value)) (exact ⟨c10,c11,c20,c21⟩) (fail)
     go_wp2_with fail
     go_roundg (la.length - (k+1))
     case measure=>rw[HG.out];omega
     case rel =>
      refine ⟨k+1,rfl,hlt,by go_num,fun j hj=>?_,hB.drew⟩
      by_cases hjk:j<k
      ·exact hpre.out j hjk
      ·have:j=k:=by omega
       subst this
       rw[HX.out,HY.out]
    ·have hres:decide (la=lb)=false:=by
      rw[decide_eq_false_iff_not]
      intro e
      rw[e,HY.out] at HX
      exact hxy (Option.some.inj HX.out).symm
     have HR:=Lib.hid hres
     clear hres
     by_cases h1:x.name.toList=y.name.toList
     ·have h2:¬ x.value.toList=y.value.toList:=fun h2=>hxy (by
       obtain ⟨xn,xv⟩:=x
       obtain ⟨yn,yv⟩:=y
       have e1:=(ZT _ _).1 h1
       have e2:=(ZT _ _).1 h2
       simp only at e1 e2
       rw[e1,e2])
      go_wp2_with fail
      go_region_held3 (fun W=>W.cell? ⟨b1,o1+k*2,none⟩=some (.string x.name)∧W.cell? ⟨b1,o1+k*2+1,none⟩=some (.string x.value)∧W.cell? ⟨b2,o2+k*2,none⟩=some (.string y.name)∧W.cell? ⟨b2,o2+k*2+1,none⟩=some (.string y.value)) (exact ⟨c10,c11,c20,c21⟩) (fail)
      go_wp2_with fail
      go_ret
      exact ⟨by rw[HR.out];rfl,hB.drew⟩
     ·go_wp2_with fail
      go_region_held3 (fun W=>W.cell? ⟨b1,o1+k*2,none⟩=some (.string x.name)∧W.cell? ⟨b1,o1+k*2+1,none⟩=some (.string x.value)∧W.cell? ⟨b2,o2+k*2,none⟩=some (.string y.name)∧W.cell? ⟨b2,o2+k*2+1,none⟩=some (.string y.value)) (exact ⟨c10,c11,c20,c21⟩) (fail)
      go_wp2_with fail
      go_ret
      exact ⟨by rw[HR.out];rfl,hB.drew⟩
   ·have hres:decide (la=lb)=true:=by
     rw[decide_eq_true_eq]
     exact Wv HL.out hpre.out (by omega)
    have HR:=Lib.hid hres
    clear hres
    go_wp2_with fail
    go_ret
    exact ⟨by rw[HR.out];rfl,hB⟩
 ·have hres:decide (la=lb)=false:=by
   rw[decide_eq_false_iff_not]
   intro e
   exact hl (by rw[e])
  rw[hres]
  clear hres
  have hl1:(((la.length:Nat):Int) != ((lb.length:Nat):Int))=true:=by simp;omega
  go_enter Tryz.func33,Tryz.ntmps33
  go_wp2_with fail
  go_ret
  exact ⟨rfl,Below.refl _ _⟩
theorem Z6.drew {α:Type} {ea:α→List Value} {k:Nat} {w:World} {v:Value} {l:List α} (h:Z6 ea k w v l):Z6 ea k w.drew v l:=h
noncomputable def V2 (l:List El) (ms:List OpD) (k:Nat):List Atr:=@dite _ (∃ al,Vv l ms (k:Int) al) (Classical.propDecidable _) (fun h=>Classical.choose h) (fun _=>[])
theorem Q0 {l:List El} {ms:List OpD} {k:Nat} {al:List Atr} (h:Vv l ms k al):V2 l ms k=al:=by
 have h1:∃ al,Vv l ms (k:Int) al:=⟨al,h⟩
 unfold V2
 rw[dif_pos h1]
 exact (Classical.choose_spec h1).unique h
def chB (c:Int):ByteArray:=⟨#[UInt8.ofNat (c % 256).toNat]⟩
theorem Rp (b:ByteArray):(⟨#[]⟩:ByteArray)++b=b:=by
 apply ByteArray.ext
 rw[ByteArray.data_append]
 simp
abbrev Pcs:=List (ByteArray × List Atr)
def Yr (x:El) (al:List Atr) (P:Pcs):Pcs :=
 if x.ch=0∨x.gone=true then P
 else match P.getLast? with
  | some q=>if q.2=al then P.dropLast++[(q.1++chB x.ch,al)] else P++[(chB x.ch,al)]
  | none=>P++[(chB x.ch,al)]
noncomputable def YN (l:List El) (ms:List OpD) (f:Nat):Nat→Pcs
 | 0=>[]
 | n+1=>match l[f+n]? with
  | some x=>Yr x (V2 l ms (f+n)) (YN l ms f n)
  | none=>YN l ms f n
theorem RV {l:List El} {ms:List OpD} {f n:Nat} {x:El} (hx:l[f+n]?=some x):YN l ms f (n+1)=Yr x (V2 l ms (f+n)) (YN l ms f n):=by
 rw[YN,hx]
theorem TQ {x:El} {al:List Atr} {P:Pcs} (h:x.ch=0∨x.gone=true):Yr x al P=P:=if_pos h
theorem T3 {x:El} {al:List Atr} (h:¬ (x.ch=0∨x.gone=true)):Yr x al []=[(chB x.ch,al)]:=by
 unfold Yr
 rw[if_neg h]
 rfl
theorem TG {x:El} {t:ByteArray} {al:List Atr} {P:Pcs} (h:¬ (x.ch=0∨x.gone=true)):Yr x al (P++[(t,al)])=P++[(t++chB x.ch,al)]:=by
 unfold Yr
 rw[if_neg h]
 simp
theorem SG {x:El} {t:ByteArray} {al bl:List Atr} {P:Pcs} (h:¬ (x.ch=0∨x.gone=true)) (hne:bl≠al):Yr x al (P++[(t,bl)])=P++[(t,bl)]++[(chB x.ch,al)]:=by
 unfold Yr
 rw[if_neg h]
 simp[hne]
theorem S9 (l:List El) (ms:List OpD) (f:Nat):∀ n,(YN l ms f n).length≤n
 | 0=>by simp[YN]
 | n+1=>by
  have ih:=S9 l ms f n
  rw[YN]
  split
  ·unfold Yr
   split
   ·omega
   ·split
    ·rename_i q hq
     have hne:YN l ms f n≠[]:=fun e=>by rw[e] at hq;cases hq
     have:=List.length_pos_iff.2 hne
     split <;> simp <;> omega
    ·simp;omega
  ·omega
theorem UG (l:List El) (ms:List OpD) (f:Nat):∀ n,∀ q∈YN l ms f n,q.1.size≤n
 | 0=>by simp[YN]
 | n+1=>by
  have ih:=UG l ms f n
  have hc:∀ c,(chB c).size=1:=fun c=>rfl
  rw[YN]
  split
  ·unfold Yr
   split
   ·intro q hq;have:=ih q hq;omega
   ·split
    ·rename_i q hq
     have hq1:=ih q (List.mem_of_getLast? hq)
     split
     ·intro z hz
      rw[List.mem_append,List.mem_singleton] at hz
      rcases hz with hz|rfl
      ·have:=ih z ((List.dropLast_subset _) hz);omega
      ·simp only[ByteArray.size_append,hc];omega
     ·intro z hz
      rw[List.mem_append,List.mem_singleton] at hz
      rcases hz with hz|rfl
      ·have:=ih z hz;omega
      ·simp only[hc];omega
    ·intro z hz
     rw[List.mem_append,List.mem_singleton] at hz
     rcases hz with hz|rfl
     ·have:=ih z hz;omega
     ·simp only[hc];omega
  ·intro q hq;have:=ih q hq;omega
structure Pc where
 t:ByteArray
 s:Sl
def Pc.cells (x:Pc):List Value:=[.string x.t,.slice x.s.a x.s.n x.s.cap]
theorem Pc.len (x:Pc):x.cells.length=2:=rfl
theorem Pc.one (x:Pc):∀ u∈x.cells,u.oneCell'=true:=by
 intro u hu
 simp only[Pc.cells,List.mem_cons,List.not_mem_nil,or_false] at hu
 rcases hu with rfl|rfl <;> rfl
def YL (base:Nat) (W:World) (u:Value) (P:Pcs):Prop :=
 ∃ vs:List Pc,Own Pc.cells 2 75 base W u vs∧vs.length=P.length∧∀ (j:Nat) (x:Pc),vs[j]?=some x→∃ al,P[j]?=some (x.t,al)∧Own Atr.cells 2 73 base W x.s.val al
theorem YL.ext {base:Nat} {W W':World} {u:Value} {P:Pcs} (h:YL base W u P) (hb:Below W.heap.size W W'):YL base W' u P:=by
 obtain ⟨vs,h1,h2,h3⟩:=h
 have hx:Ext (fun _=>False) W W':=Ext.of_below hb
 refine ⟨vs,h1.ext hx (fun _ _ f=>f),h2,fun j x hj=>?_⟩
 obtain ⟨al,h4,h5⟩:=h3 j x hj
 exact ⟨al,h4,h5.ext hx (fun _ _ f=>f)⟩
theorem R0:(Tryz.prog.info? 75).map (fun i=>(i.zero,i.size,i.bytes))=some (some (.agg #[.string ⟨#[]⟩,.slice none 0 0]),2,40):=by kernel_rfl
theorem U6 (W:World) (b:Nat) (c:Int) (h:W.cell? ⟨b,0,none⟩=some (.int .u8 (c % 256))):(convert 64 9 (.slice (some ⟨b,0,none⟩) 1 1)).run Tryz.prog W=.ok (.string (chB c)) W:=by
 rw[run_convert_bytes_string W 64 9 5 (some ⟨b,0,none⟩) 1 1 Tryz.underlying64 (by kernel_rfl) Tryz.underlying9]
 have hl:=run_loadCells_list (P:=Tryz.prog) W ⟨b,0,none⟩ [.int .u8 (c % 256)] (fun j v hj=>by
  rw[Wz,Nat.zero_add]
  match j,hj with
  | 0,hj=>simp at hj;subst hj;exact h
  | n+1,hj=>simp at hj)
 have:=run_bytesToString (P:=Tryz.prog) W ⟨b,0,none⟩ 1 1 [c % 256] hl
 rw[this]
 rfl
theorem Uo (va vb:Value) (la lb:List Atr) (w:World) (ha:Z6 Atr.cells 2 w va la) (hb:Z6 Atr.cells 2 w vb lb) :
  Calls Tryz.prog 70 #[va,vb] w fun e w'=>e=.returned (.bool (decide (la=lb)))∧Below w.heap.size w w':=by
 obtain ⟨aa,capa,rfl,hca,hma,hcella⟩:=ha
 obtain ⟨ab,capb,rfl,hcb,hmb,hcellb⟩:=hb
 unfold maxLen at hma hmb
 by_cases hl:la.length=lb.length
 ·have HL:=Lib.hid hl
  have hl1:(((la.length:Nat):Int) != ((lb.length:Nat):Int))=false:=by simp[hl]
  clear hl
  go_enter Tryz.func70,Tryz.ntmps70
  go_wp2_with fail
  go_loopg [13] la.length (fun g i wr=>∃ k:Nat,g=la.length - k∧k≤la.length∧i=.int .i64 k∧Hid (∀ j,j<k→la[j]?=lb[j]?)∧Below w.heap.size w wr)
  case atStart=>exact ⟨0,rfl,Nat.zero_le _,rfl,fun j hj=>absurd hj (by omega),Below.refl _ _⟩
  case round =>
   obtain ⟨k,hg,hk,rfl,hpre,hB⟩:=hrel
   by_cases hlt:k<la.length
   ·obtain ⟨x,hx⟩:∃ x,la[k]?=some x:=⟨_,List.getElem?_eq_getElem hlt⟩
    obtain ⟨y,hy⟩:∃ y,lb[k]?=some y:=⟨_,List.getElem?_eq_getElem (by rw[←HL.out];exact hlt)⟩
    obtain ⟨b1,o1,rfl,hc1⟩:=hcella (by intro e;rw[e] at hlt;simp at hlt)
    obtain ⟨b2,o2,rfl,hc2⟩:=hcellb (by intro e;rw[e] at hy;simp at hy)
    have c10:wr.cell? ⟨b1,o1+k*2,none⟩=some (.string x.name):=Z0 hB (hc1 k x hx 0 _ rfl)
    have c11:wr.cell? ⟨b1,o1+k*2+1,none⟩=some (.string x.value):=Z0 hB (hc1 k x hx 1 _ rfl)
    have c20:wr.cell? ⟨b2,o2+k*2,none⟩=some (.string y.name):=Z0 hB (hc2 k y hy 0 _ rfl)
    have c21:wr.cell? ⟨b2,o2+k*2+1,none⟩=some (.string y.value):=Z0 hB (hc2 k y hy 1 _ rfl)
    have hlt2:k<lb.length:=(List.getElem?_eq_some_iff.1 hy).1
    have HX:=Lib.hid hx
    have HY:=Lib.hid hy
    have HG:=Lib.hid hg
    clear hx hy hg hcella hcellb hc1 hc2
    by_cases hxy:x=y
    ·subst hxy
     go_wp2_with fail
     go_region_held3 (fun W=>W.cell? ⟨b1,o1+k*2,none⟩=some (.string x.name)∧W.cell? ⟨b1,o1+k*2+1,none⟩=some (.string x.value)∧W.cell? ⟨b2,o2+k*2,none⟩=some (.string x.name)∧W.cell? ⟨b2,o2+k*2+1,none⟩=some (.string x.value)) (exact ⟨c10,c11,c20,c21⟩) (fail)
     go_wp2_with fail
     go_roundg (la.length - (k+1))
     case measure=>rw[HG.out];omega
     case rel =>
      refine ⟨k+1,rfl,hlt,by go_num,fun j hj=>?_,hB.drew⟩
      by_cases hjk:j<k
      ·exact hpre.out j hjk
      ·have:j=k:=by omega
       subst this
       rw[HX.out,HY.out]
    ·have hres:decide (la=lb)=false:=by
      rw[decide_eq_false_iff_not]
      intro e
      rw[e,HY.out] at HX
      exact hxy (Option.some.inj HX.out).symm
     have HR:=Lib.hid hres
     clear hres
     by_cases h1:x.name.toList=y.name.toList
     ·have h2:¬ x.value.toList=y.value.toList:=fun h2=>hxy (by
       obtain ⟨xn,xv⟩:=x
       obtain ⟨yn,yv⟩:=y
       have e1:=(ZT _ _).1 h1
       have e2:=(ZT _ _).1 h2
       simp only at e1 e2
       rw[e1,e2])
      go_wp2_with fail
      go_region_held3 (fun W=>W.cell? ⟨b1,o1+k*2,none⟩=some (.string x.name)∧W.cell? ⟨b1,o1+k*2+1,none⟩=some (.string x.value)∧W.cell? ⟨b2,o2+k*2,none⟩=some (.string y.name)∧W.cell? ⟨b2,o2+k*2+1,none⟩=some (.string y.value)) (exact ⟨c10,c11,c20,c21⟩) (fail)
      go_wp2_with fail
      go_ret
      exact ⟨by rw[HR.out];rfl,hB.drew⟩
     ·go_wp2_with fail
      go_region_held3 (fun W=>W.cell? ⟨b1,o1+k*2,none⟩=some (.string x.name)∧W.cell? ⟨b1,o1+k*2+1,none⟩=some (.string x.value)∧W.cell? ⟨b2,o2+k*2,none⟩=some (.string y.name)∧W.cell? ⟨b2,o2+k*2+1,none⟩=some (.string y.value)) (exact ⟨c10,c11,c20,c21⟩) (fail)
      go_wp2_with fail
      go_ret
      exact ⟨by rw[HR.out];rfl,hB.drew⟩
   ·have hres:decide (la=lb)=true:=by
     rw[decide_eq_true_eq]
     exact Wv HL.out hpre.out (by omega)
    have HR:=Lib.hid hres
    clear hres
    go_wp2_with fail
    go_ret
    exact ⟨by rw[HR.out];rfl,hB⟩
 ·have hres:decide (la=lb)=false:=by
   rw[decide_eq_false_iff_not]
   intro e
   exact hl (by rw[e])
  rw[hres]
  clear hres
  have hl1:(((la.length:Nat):Int) != ((lb.length:Nat):Int))=true:=by simp;omega
  go_enter Tryz.func70,Tryz.ntmps70
  go_wp2_with fail
  go_ret
  exact ⟨rfl,Below.refl _ _⟩
end Go.Proofs.YtlgipkemoldckaaGreatDoor
namespace Go.Proofs.YtlgipkemoldckaaGreatDoor
open Go.RowKit Go.Sort Go.Shelf
def Z0a (l:List El) (ms:List OpD) (F:List Z9) (f:Nat) (t:Int) (v:Value) (w:World) (n:Nat) (out:Value) (wr:World):Prop :=
 Hid (YL (w.heap.size+1) wr out (YN l ms f n))∧Hid (Own Z9.cells 28 183 (w.heap.size+1) wr v F)∧wr.cell? ⟨w.heap.size,3,none⟩=some (.int .i64 t)∧Below w.heap.size w wr∧w.heap.size+1≤wr.heap.size
noncomputable def YI (l:List El) (ms:List OpD) (fi ti:Int):Pcs:=if fi<0∨ti<fi∨(l.length:Int)<ti then [] else YN l ms fi.toNat (ti.toNat - fi.toNat)
theorem Q5 {base:Nat} {w:World} {g n cap:Nat} {Q:List Pc} {x:Pc} (h:Own Pc.cells 2 75 base w (.slice (some ⟨g,0,none⟩) n cap) (Q++[x])) (t:ByteArray) :
  Own Pc.cells 2 75 base (w.setCell ⟨g,Q.length*2,none⟩ (.string t)) (.slice (some ⟨g,0,none⟩) n cap) (Q++[⟨t,x.s⟩]):=by
 have hn:n=(Q++[x]).length:=by
  obtain ⟨va,vc,hv,_⟩:=h.slice Pc.len
  cases hv
  rfl
 subst hn
 have h1:=(World.ownsRow.stored h (Q.length*2) (.string t)).1
 unfold Own
 have e:((Q++[x]).flatMap Pc.cells).set (Q.length*2) (.string t)=(Q++[(⟨t,x.s⟩:Pc)]).flatMap Pc.cells:=by
  have hl:=Y9 Pc.len Q
  rw[List.flatMap_append,List.flatMap_append,List.set_append_right _ _ (by omega),hl,Nat.sub_self]
  rfl
 have hl2:(Q++[(⟨t,x.s⟩:Pc)]).length=(Q++[x]).length:=by simp
 rw[←e,hl2]
 exact h1
theorem Wc {base:Nat} {w:World} {g n cap:Nat} {Q:List Pc} {x:Pc} (h:Own Pc.cells 2 75 base w (.slice (some ⟨g,0,none⟩) n cap) (Q++[x])) :
  n=Q.length+1∧n≤cap∧cap≤maxLen∧g<w.heap.size∧base≤g∧w.cell? ⟨g,Q.length*2,none⟩=some (.string x.t)∧w.cell? ⟨g,Q.length*2+1,none⟩=some (.slice x.s.a x.s.n x.s.cap)∧w.frozen? ⟨g,Q.length*2,none⟩=false:=by
 have hb:=h.blk g rfl
 obtain ⟨va,vc,hv,h2,h3,h4⟩:=h.slice Pc.len
 cases hv
 obtain ⟨b,o,he,hc⟩:=h4 (by simp)
 cases he
 have c1:=hc Q.length x (by simp) 0 _ rfl
 have c2:=hc Q.length x (by simp) 1 _ rfl
 rw[Nat.zero_add] at c1 c2
 refine ⟨by simp,h2,h3,hb.2,hb.1,c1,c2,World.ownsRow.frozenAt h _⟩
theorem VG {α:Type} (l:List α):l=[]∨∃ q x,l=q++[x]:=by
 rcases List.eq_nil_or_concat l with h|⟨q,x,h⟩
 ·exact .inl h
 ·exact .inr ⟨q,x,by rw[h,List.concat_eq_append]⟩
theorem WP {base g cap nn:Nat} {w3:World} {q1:List Pc} {s:Sl} {u1 t':ByteArray} {q2:Pcs} {al:List Atr} (hown:Own Pc.cells 2 75 base w3 (.slice (some ⟨g,0,none⟩) nn cap) (q1++[⟨u1,s⟩])) (hl:q1.length=q2.length)
  (hE:∀ (j:Nat) (y:Pc),(q1++[(⟨u1,s⟩:Pc)])[j]?=some y→∃ al',(q2++[(u1,al)])[j]?=some (y.t,al')∧Own Atr.cells 2 73 base w3 y.s.val al') (o:Obj) :
  YL base (((w3.setCell ⟨g,q1.length*2,none⟩ (.string t')).alloc o).drew) (.slice (some ⟨g,0,none⟩) nn cap) (q2++[(t',al)]):=by
 have hx4:Ext (·=g) w3 (w3.setCell ⟨g,q1.length*2,none⟩ (.string t')):=(Ext.refl (·=g) w3).setCell (p:=⟨g,q1.length*2,none⟩) (.inr rfl) _
 have hk:∀ {v:Value} {q:List Atr},Own Atr.cells 2 73 base w3 v q→Own Atr.cells 2 73 base (((w3.setCell ⟨g,q1.length*2,none⟩ (.string t')).alloc o).drew) v q:=fun h=>((h.ext hx4 (fun b hb e=>h.apart hown (by decide) b hb (by rw[e];rfl))).alloc o).drew
 refine ⟨q1++[⟨t',s⟩],((Q5 hown t').alloc o).drew,by simp[hl],fun j y hj=>?_⟩
 by_cases hjv:j<q1.length
 ·rw[List.getElem?_append_left hjv] at hj
  obtain ⟨al',h1,h2⟩:=hE j y (by rw[List.getElem?_append_left hjv];exact hj)
  rw[List.getElem?_append_left (by omega)] at h1
  exact ⟨al',by rw[List.getElem?_append_left (by omega)];exact h1,hk h2⟩
 ·have hj2:j=q1.length:=by
   have:=(List.getElem?_eq_some_iff.1 hj).1
   simp at this
   omega
  subst hj2
  simp at hj
  subst hj
  obtain ⟨al',h1,h2⟩:=hE q1.length ⟨u1,s⟩ (by simp)
  rw[hl] at h1
  simp at h1
  subst h1
  exact ⟨al,by rw[hl];simp,hk h2⟩
theorem VT (va vb:Option Addr) (ca cb:Nat) (l:List El) (ms:List OpD) (sn sr fi ti:Int) (w:World) (hl:Z6 El.cells 4 w (.slice va l.length ca) l) (hm:Z6 OpD.cells 26 w (.slice vb ms.length cb) ms) (hln:l.length≤1000) (hmn:ms.length≤1000) :
  Calls Tryz.prog 47 #[.slice va l.length ca,.agg #[.int .i64 sn,.int .i64 sr,.int .i64 fi,.int .i64 ti],.slice vb ms.length cb] w fun e w'=>∃ u,e=.returned u∧Hid (YL w.heap.size w' u (YI l ms fi ti))∧Below w.heap.size w w':=by
 obtain ⟨i0,hi,hz0,hz1',hz2⟩:=info_parts R0
 obtain ⟨_,_,e0,hcap,hmax,hcs⟩:=id hl
 cases e0
 have HC:=Lib.hid hcs
 have hB0:Below w.heap.size w (w.alloc (.cells #[.int .i64 sn,.int .i64 sr,.int .i64 fi,.int .i64 ti] 109)):=(Below.refl _ _).alloc (Nat.le_refl _) _
 have hl0:=hl.below hB0
 have hm0:=hm.below hB0
 have d2:(w.alloc (.cells #[.int .i64 sn,.int .i64 sr,.int .i64 fi,.int .i64 ti] 109)).cell? ⟨w.heap.size,2,none⟩=some (.int .i64 fi):=by go_simp
 have d3:(w.alloc (.cells #[.int .i64 sn,.int .i64 sr,.int .i64 fi,.int .i64 ti] 109)).cell? ⟨w.heap.size,3,none⟩=some (.int .i64 ti):=by go_simp
 have hz:(w.alloc (.cells #[.int .i64 sn,.int .i64 sr,.int .i64 fi,.int .i64 ti] 109)).heap.size=w.heap.size+1:=by simp
 clear hcs hl hm
 by_cases hbad:fi<0∨ti<fi∨(l.length:Int)<ti
 ·have HR:Hid (∀ W,YL w.heap.size W (.slice none 0 0) (YI l ms fi ti)):=Jh (fun W=>by
   rw[YI,if_pos hbad]
   exact ⟨[],Own.nil,rfl,by simp⟩)
  by_cases h1:fi<0
  ·clear hbad
   go_enter Tryz.func47,Tryz.ntmps47
   go_wp2_with fail
   go_ret
   exact ⟨_,rfl,Jh (HR.out _),hB0⟩
  ·by_cases h2:ti<fi
   ·clear hbad
    go_enter Tryz.func47,Tryz.ntmps47
    go_wp2_with fail
    go_ret
    exact ⟨_,rfl,Jh (HR.out _),hB0⟩
   ·have h3:(l.length:Int)<ti:=by omega
    clear hbad
    go_enter Tryz.func47,Tryz.ntmps47
    go_wp2_with fail
    go_ret
    exact ⟨_,rfl,Jh (HR.out _),hB0⟩
 ·obtain ⟨f,rfl⟩:∃ f:Nat,fi=(f:Int):=⟨fi.toNat,by omega⟩
  obtain ⟨N,rfl⟩:∃ N:Nat,ti=(f:Int)+(N:Int):=⟨(ti - f).toNat,by omega⟩
  have HR:Hid (YI l ms f ((f:Int)+(N:Int))=YN l ms f N):=Jh (by
   rw[YI,if_neg hbad]
   have e1:((f:Int)+(N:Int)).toNat - (f:Int).toNat=N:=by omega
   rw[e1,Int.toNat_natCast])
  have hfN:f+N≤l.length:=by omega
  have i1:¬ (f:Int)<0:=by omega
  have i2:¬ (f:Int)+(N:Int)<(f:Int):=by omega
  have i3:¬ (l.length:Int)<(f:Int)+(N:Int):=by omega
  have i4:¬ (N:Int)<0:=by omega
  clear hbad
  obtain ⟨W0,hW0⟩:=Je (w.alloc (.cells #[.int .i64 sn,.int .i64 sr,.int .i64 f,.int .i64 ((f:Int)+(N:Int))] 109))
  rw[hW0] at hB0 hl0 hm0 d2 d3 hz
  have HW0:=Lib.hid hW0
  clear hW0
  go_enter Tryz.func47,Tryz.ntmps47
  go_upto_region 1 with fail
  rw[HW0.out]
  go_wp2_with fail
  refine (RO va vb ca cb l ms W0 hl0 hm0 hln hmn).mono ?_
  rintro e w1 ⟨v,F,rfl,hFo,hF,hb1⟩
  have hFn:F.length≤1000:=by
   have h1:=Wj (Zp (Zb l)) (Zb ms)
   rw[YF] at h1
   have:=hF.perm.length_eq
   omega
  have HF:=Lib.hid hF
  have hB1:=hB0.trans (hb1.mono hB0.size)
  have e2:=Z0 hb1 d2
  have e3:=Z0 hb1 d3
  have hs1:=hb1.size
  rw[hz] at hs1
  rw[hz] at hFo
  clear hF hb1 hB0 hl0 hm0 d2 d3
  go_wp2_with fail
  go_loopg [8,9] N (fun g out iv wr=>∃ n:Nat,g=N - n∧n≤N∧iv=.int .i64 ((f:Int)+(n:Int))∧Z0a l ms F f ((f:Int)+(N:Int)) v w n out wr)
  case atStart=>exact ⟨0,by omega,by omega,by simp,Lib.hid ⟨[],Own.nil,rfl,by simp⟩,Lib.hid hFo,e3,hB1,hs1⟩
  case round =>
   clear e2 e3 hB1 hs1 hFo
   obtain ⟨n,hg,hn,rfl,hP,hFo,e3,hB,hs⟩:=hrel
   have HG:=Lib.hid hg
   have HB:=Lib.hid hB
   by_cases hnN:n<N
   ·obtain ⟨x,hx⟩:∃ x,l[f+n]?=some x:=⟨_,List.getElem?_eq_getElem (by omega)⟩
    obtain ⟨b,o,rfl,hcc⟩:=HC.out (by intro e;rw[e] at hx;simp at hx)
    have hkp:∀ {b o u},w.cell? ⟨b,o,none⟩=some u→wr.cell? ⟨b,o,none⟩=some u:=fun h=>(World.cell?_of_block (w:=w) (hB.block _ (Zy h))).trans h
    have x2:wr.cell? ⟨b,o+(f+n)*4+2,none⟩=some (.int .i64 x.ch):=hkp (hcc (f+n) x hx 2 _ rfl)
    have x3:wr.cell? ⟨b,o+(f+n)*4+3,none⟩=some (.bool x.gone):=hkp (hcc (f+n) x hx 3 _ rfl)
    have hbw:b<w.heap.size:=Zy (hcc (f+n) x hx 2 _ rfl)
    have j1:(f:Int)+(n:Int)<(f:Int)+(N:Int):=by omega
    have j2:(f:Int)+(n:Int)<(l.length:Int):=by omega
    have j3:(0:Int)≤(f:Int)+(n:Int):=by omega
    have j4:((f:Int)+(n:Int)).toNat=f+n:=by omega
    have HS:=Jh (RV (ms:=ms) hx)
    clear hcc hkp hg hB hx
    by_cases hsk:x.ch=0∨x.gone=true
    ·have HSK:=Jh (TQ (al:=V2 l ms (f+n)) (P:=YN l ms f n) hsk)
     by_cases hc0:x.ch=0
     ·rw[hc0] at x2
      clear hsk
      go_wp2_with fail
      go_roundg (N - (n+1))
      case measure=>rw[HG.out];omega
      case rel=>exact ⟨n+1,rfl,by omega,by simp;omega,Jh (by rw[HS.out,HSK.out];exact hP.out),hFo,e3,HB.out,hs⟩
     ·have hgn:x.gone=true:=hsk.resolve_left hc0
      rw[hgn] at x3
      clear hsk
      go_wp2_with fail
      go_roundg (N - (n+1))
      case measure=>rw[HG.out];omega
      case rel=>exact ⟨n+1,rfl,by omega,by simp;omega,Jh (by rw[HS.out,HSK.out];exact hP.out),hFo,e3,HB.out,hs⟩
    ·have hc0:¬ x.ch=0:=fun e=>hsk (.inl e)
     have hgn:x.gone=false:=by
      cases h:x.gone with
      | false=>rfl
      | true=>exact absurd (.inr h) hsk
     rw[hgn] at x3
     have HK:=Lib.hid hsk
     clear hsk
     go_wp2_with fail
     have hhas:=QT v F ((f+n:Nat):Int) wr (hFo.out.slice Z9.len) hFn
     rw[Int.natCast_add] at hhas
     refine hhas.mono ?_
     rintro e w2 ⟨u2,al,rfl,hA1,hA2,hA3,hb2⟩
     have hal:V2 l ms (f+n)=al:=Q0 (Sx HF.out ⟨by rw[Int.natCast_add];exact hA2,hA3⟩ (SZ F _))
     have HAL:=Lib.hid hal
     have hB2:=HB.out.trans (hb2.mono HB.out.size)
     have hA4:=hA1.mono hs
     have y2:=Z0 hb2 x2
     have e4:=Z0 hb2 e3
     have hFo2:=hFo.out.ext (Ext.of_below (S:=fun _=>False) hb2) (fun _ _ h=>h)
     have hs2:w.heap.size+1≤w2.heap.size:=Nat.le_trans hs hb2.size
     obtain ⟨vs,hO,hvl,hE⟩:=hP.out.ext hb2
     have hple:=S9 l ms f n
     have HSZ:=Jh (UG l ms f n)
     obtain ⟨sl,rfl⟩:=hA1.sl
     have HE:=Lib.hid hE
     have HFo2:=Lib.hid hFo2
     have HB2:=Lib.hid hB2
     have HA4:=Lib.hid hA4
     clear hal hA1 hA2 hA3 hA4 hb2 hhas x2 x3 hP hFo e3 hs HB hE hFo2 hB2
     generalize YN l ms f n=P at *
     rcases VG P with rfl|⟨Q,⟨t0,bl⟩,rfl⟩
     ·obtain rfl:vs=[]:=List.eq_nil_of_length_eq_zero (by simpa using hvl)
      obtain ⟨a8,c8,rfl,hc8,hm8,_⟩:=hO.slice Pc.len
      simp only[List.length_nil] at hO hc8 ⊢
      go_upto_region 13 with (at_builtin;refine YC rfl _ _ _ rfl i0 (.agg #[.string ⟨#[]⟩,.slice none 0 0]) 40 Tryz.underlying25 hi hz0 hz1' hz2 rfl (by omega) Pc.len Pc.one rfl (hO.alloc _) ⟨⟨#[]⟩,sl⟩ w2.heap.size 1 rfl ?_ (by unfold maxLen;omega) (by omega) (by simp;omega) ?_)
      ·intro j u hj
       match j,hj with
       | 0,hj=>simp[Pc.cells] at hj;subst hj;go_simp
       | 1,hj=>simp[Pc.cells] at hj;subst hj;go_simp
       | n+2,hj=>simp[Pc.cells] at hj
      ·intro v' w3 hown hx3
       have hdis:∀ {k:Nat} {α:Type} {ea:α→List Value} {e:TypeId} {v:Value} {q:List α},Own ea k e (w.heap.size+1) w2 v q→e≠75→Own ea k e (w.heap.size+1) w3 v q:=fun h he=>(h.alloc _).ext hx3 (h.apart hO he)
       have hne:∀ b,Value.ownBlock (Value.slice a8 0 c8)=some b→w.heap.size+1≤b:=fun b hb=>(hO.blk b hb).1
       have HB3:=Jh (Ext.new (HB2.out.alloc (by omega) _) hx3 (fun i hi _ e=>by have:=hne _ e;omega) (by simp;omega))
       have e5:=hx3.keep (Z2 e4 _) (fun e=>by have:=hne _ e;omega)
       have y3:=hx3.keep (Z2 y2 _) (fun e=>by have:=hne _ e;omega)
       have hs3:w.heap.size+1≤w3.heap.size:=by have:=hx3.size;simp at this;omega
       have HFo3:=Jh (hdis HFo2.out (by decide))
       obtain ⟨g,cap,nn,rfl⟩:∃ g c nn,v'=.slice (some ⟨g,0,none⟩) nn c:=by
        rcases hown.eq_slice with ⟨_,h⟩|⟨g,c,h,_⟩
        ·simp at h
        ·exact ⟨g,c,_,h⟩
       replace hown:Own Pc.cells 2 75 (w.heap.size+1) w3 (.slice (some ⟨g,0,none⟩) nn cap) (([]:List Pc)++[⟨⟨#[]⟩,sl⟩]):=by first|exact hown|(rw[List.append_assoc];exact hown)|simpa using hown
       have HE3:Hid (∀ (j:Nat) (y:Pc),(([]:List Pc)++[(⟨⟨#[]⟩,sl⟩:Pc)])[j]?=some y→∃ al',(([]:Pcs)++[((⟨#[]⟩:ByteArray),al)])[j]?=some (y.t,al')∧Own Atr.cells 2 73 (w.heap.size+1) w3 y.s.val al'):=Jh (fun j y hj=>by
        by_cases hjv:j<List.length ([]:List Pc)
        ·rw[List.getElem?_append_left hjv] at hj
         rw[List.getElem?_append_left (by rw[←hvl];exact hjv)]
         obtain ⟨al',h1,h2⟩:=HE.out j y hj
         exact ⟨al',h1,hdis h2 (by decide)⟩
        ·have hj2:j=List.length ([]:List Pc):=by
          have:=(List.getElem?_eq_some_iff.1 hj).1
          rw[List.length_append] at this
          have e1:List.length [(⟨⟨#[]⟩,sl⟩:Pc)]=1:=rfl
          rw[e1] at this
          omega
         subst hj2
         simp at hj
         subst hj
         rw[hvl]
         exact ⟨al,by simp,hdis HA4.out (by decide)⟩)
       clear hx3 hdis hne hO e4 y2 hs2 HB2 HA4 HFo2 HE
       have HT0:Hid (ByteArray.size (⟨#[]⟩:ByteArray)≤1000):=Jh (by decide)
       have HLQ:Hid (List.length (α:=Pc) []=List.length (α:=ByteArray × List Atr) []):=Lib.hid rfl
       obtain ⟨k1,k2,k3,k4,k5,k6,k7,k8⟩:=Wc (Q:=[]) (x:=⟨⟨#[]⟩,sl⟩) hown
       obtain ⟨m,hmq⟩:∃ m,List.length (α:=Pc) []=m:=⟨_,rfl⟩
       have hmb:List.length (α:=Pc) []≤1000:=by first|omega|(simp at hvl;simp;omega)|simp
       rw[hmq] at k1 k6 k7 k8 hmb
       first|subst k1|(obtain rfl:m=m0:=by omega)
       simp only at k6
       have HMQ:=Lib.hid hmq
       clear hmq
       have hbw3:b<w3.heap.size:=by have:=HB3.out.size;omega
       have HST:Hid (Yr x al ([])=([]:Pcs)++[((⟨#[]⟩:ByteArray)++chB x.ch,al)]):=Jh (by rw[T3 HK.out,Rp];rfl)
       have hsum:∀ W,(Op.stringOp .add ((⟨#[]⟩:ByteArray)) (chB x.ch)).run Tryz.prog W=.ok (.string (((⟨#[]⟩:ByteArray))++chB x.ch)) W:=fun W=>run_string_add_sum W _ _ (by have e1:(chB x.ch).size=1:=rfl;have e2:=HT0.out;omega)
       have hcv:∀ W,W.cell? ⟨w3.heap.size,0,none⟩=some (.int .u8 (x.ch % 256))→(convert 64 9 (.slice (some ⟨w3.heap.size,0,none⟩) 1 1)).run Tryz.prog W=.ok (.string (chB x.ch)) W:=fun W h=>U6 W _ _ h
       go_upto_region 13 with fail
       go_region
       have hcl:=WP (t':=((⟨#[]⟩:ByteArray))++chB x.ch) (q1:=[]) (q2:=([]:Pcs)) hown HLQ.out HE3.out (.cells #[.int .u8 (x.ch % 256)] 5)
       rw[HMQ.out] at hcl
       have HCL:=Lib.hid hcl
       have hx4:Ext (·=g) w3 ((w3.setCell ⟨g,m*2,none⟩ (.string (((⟨#[]⟩:ByteArray))++chB x.ch))).alloc (.cells #[.int .u8 (x.ch % 256)] 5)).drew:=(((Ext.refl (·=g) w3).setCell (p:=⟨g,m*2,none⟩) (.inr rfl) _).alloc _).drew
       have hz4:=hx4.size
       have hFo4:=Jh (HFo3.out.ext hx4 (fun b hb e=>HFo3.out.apart hown (by decide) b hb (by rw[e];rfl)))
       clear hcl hown k6 k7 k8 hsum hcv y3 HE3
       go_wp2_with fail
       go_roundg (N - (n+1))
       case measure=>rw[HG.out];omega
       case rel=>exact ⟨n+1,rfl,by omega,by simp;omega,Jh (by rw[HS.out,HAL.out,HST.out];exact HCL.out),hFo4,hx4.keep e5 (by omega),Ext.new HB3.out hx4 (fun i hi _ e=>by omega) (by omega),by omega⟩
     ·obtain ⟨vq,⟨pt,ps⟩,rfl⟩:∃ vq pc,vs=vq++[pc]:=by
       rcases VG vs with rfl|h
       ·simp at hvl
       ·exact h
      have hvq:vq.length=Q.length:=by simpa using hvl
      obtain ⟨bl',hb1,hb2⟩:=HE.out vq.length ⟨pt,ps⟩ (by simp)
      rw[hvq] at hb1
      simp at hb1
      obtain ⟨rfl,rfl⟩:=hb1
      have HT1:Hid (ByteArray.size t0≤1000):=Jh (by have:=HSZ.out (t0,bl) (by simp);simp only at this;omega)
      obtain ⟨g0,c0,n0,rfl⟩:∃ g c nn,u8=.slice (some ⟨g,0,none⟩) nn c:=by
       rcases hO.eq_slice with ⟨_,h⟩|⟨g,c,h,_⟩
       ·simp at h
       ·exact ⟨g,c,_,h⟩
      obtain ⟨p1,p2,p3,p4,p5,p6,p7,p8⟩:=Wc hO
      obtain ⟨m0,hm0⟩:∃ m,vq.length=m:=⟨_,rfl⟩
      have hmb0:m0≤1000:=by simp at hple;omega
      rw[hm0] at p1 p6 p7 p8
      subst p1
      simp only at p6 p7
      have HM0:=Lib.hid hm0
      clear hm0
      have hbs:=hb2.slice (fun _=>rfl)
      have hAs:=HA4.out.slice (fun _=>rfl)
      simp only[Sl.val] at hbs hAs
      by_cases hbe:bl=al
      ·subst hbe
       go_wp2_with fail
       refine (Uo _ _ bl _ w2 hbs hAs).mono ?_
       rintro e w3 ⟨rfl,hb5⟩
       rw[decide_eq_true rfl]
       have hx5:Ext (fun _=>False) w2 w3:=Ext.of_below hb5
       have hown:=hO.ext hx5 (fun _ _ f=>f)
       have HE3:Hid (∀ (j:Nat) (y:Pc),(vq++[(⟨t0,ps⟩:Pc)])[j]?=some y→∃ al',(Q++[(t0,bl)])[j]?=some (y.t,al')∧Own Atr.cells 2 73 (w.heap.size+1) w3 y.s.val al'):=Jh (fun j y hj=>by
        obtain ⟨al',h1,h2⟩:=HE.out j y hj
        exact ⟨al',h1,h2.ext hx5 (fun _ _ f=>f)⟩)
       have HFo3:=Jh (HFo2.out.ext hx5 (fun _ _ f=>f))
       have e5:=Z0 hb5 e4
       have y3:=Z0 hb5 y2
       have HB3:=Jh (HB2.out.trans (hb5.mono HB2.out.size))
       have hs3:w.heap.size+1≤w3.heap.size:=Nat.le_trans hs2 hb5.size
       have HT0:=HT1
       have HLQ:=Lib.hid hvq
       clear hx5 hb5 hO HE e4 y2 hs2 HB2 hbs hAs hb2 HA4 p6 p7 p8 p4
       obtain ⟨k1,k2,k3,k4,k5,k6,k7,k8⟩:=Wc (Q:=vq) (x:=⟨t0,ps⟩) hown
       obtain ⟨m,hmq⟩:∃ m,List.length (α:=Pc) vq=m:=⟨_,rfl⟩
       have hmb:List.length (α:=Pc) vq≤1000:=by first|omega|(simp at hvl;simp;omega)|simp
       rw[hmq] at k1 k6 k7 k8 hmb
       first|subst k1|(obtain rfl:m=m0:=by omega)
       simp only at k6
       have HMQ:=Lib.hid hmq
       clear hmq
       have hbw3:b<w3.heap.size:=by have:=HB3.out.size;omega
       have HST:Hid (Yr x bl (Q++[(t0,bl)])=Q++[(t0++chB x.ch,bl)]):=Jh (TG HK.out)
       have hsum:∀ W,(Op.stringOp .add (t0) (chB x.ch)).run Tryz.prog W=.ok (.string ((t0)++chB x.ch)) W:=fun W=>run_string_add_sum W _ _ (by have e1:(chB x.ch).size=1:=rfl;have e2:=HT0.out;omega)
       have hcv:∀ W,W.cell? ⟨w3.heap.size,0,none⟩=some (.int .u8 (x.ch % 256))→(convert 64 9 (.slice (some ⟨w3.heap.size,0,none⟩) 1 1)).run Tryz.prog W=.ok (.string (chB x.ch)) W:=fun W h=>U6 W _ _ h
       go_upto_region 13 with fail
       go_region
       have hcl:=WP (t':=(t0)++chB x.ch) (q1:=vq) (q2:=Q) hown HLQ.out HE3.out (.cells #[.int .u8 (x.ch % 256)] 5)
       rw[HMQ.out] at hcl
       have HCL:=Lib.hid hcl
       have hx4:Ext (·=g0) w3 ((w3.setCell ⟨g0,m*2,none⟩ (.string ((t0)++chB x.ch))).alloc (.cells #[.int .u8 (x.ch % 256)] 5)).drew:=(((Ext.refl (·=g0) w3).setCell (p:=⟨g0,m*2,none⟩) (.inr rfl) _).alloc _).drew
       have hz4:=hx4.size
       have hFo4:=Jh (HFo3.out.ext hx4 (fun b hb e=>HFo3.out.apart hown (by decide) b hb (by rw[e];rfl)))
       clear hcl hown k6 k7 k8 hsum hcv y3 HE3
       go_wp2_with fail
       go_roundg (N - (n+1))
       case measure=>rw[HG.out];omega
       case rel=>exact ⟨n+1,rfl,by omega,by simp;omega,Jh (by rw[HS.out,HAL.out,HST.out];exact HCL.out),hFo4,hx4.keep e5 (by omega),Ext.new HB3.out hx4 (fun i hi _ e=>by omega) (by omega),by omega⟩
      ·go_wp2_with fail
       refine (Uo _ _ bl _ w2 hbs hAs).mono ?_
       rintro e w5 ⟨rfl,hb5⟩
       rw[decide_eq_false hbe]
       have hx5:Ext (fun _=>False) w2 w5:=Ext.of_below hb5
       replace hO:=hO.ext hx5 (fun _ _ f=>f)
       have HE':Hid (∀ (j:Nat) (y:Pc),(vq++[(⟨t0,ps⟩:Pc)])[j]?=some y→∃ al',(Q++[(t0,bl)])[j]?=some (y.t,al')∧Own Atr.cells 2 73 (w.heap.size+1) w5 y.s.val al'):=Jh (fun j y hj=>by
        obtain ⟨al',h1,h2⟩:=HE.out j y hj
        exact ⟨al',h1,h2.ext hx5 (fun _ _ f=>f)⟩)
       replace HE:=HE'
       replace HA4:=Jh (HA4.out.ext hx5 (fun _ _ f=>f))
       replace HFo2:=Jh (HFo2.out.ext hx5 (fun _ _ f=>f))
       replace e4:=Z0 hb5 e4
       replace y2:=Z0 hb5 y2
       replace HB2:=Jh (HB2.out.trans (hb5.mono HB2.out.size))
       replace hs2:w.heap.size+1≤w5.heap.size:=Nat.le_trans hs2 hb5.size
       have hvs8:(vq++[(⟨t0,ps⟩:Pc)]).length≤1000:=by rw[hvl];omega
       clear hx5 hb5 HE' hbs hAs hb2 p6 p7 p8 p4
       go_upto_region 13 with (at_builtin;refine YC rfl _ _ _ rfl i0 (.agg #[.string ⟨#[]⟩,.slice none 0 0]) 40 Tryz.underlying25 hi hz0 hz1' hz2 rfl (by omega) Pc.len Pc.one rfl (hO.alloc _) ⟨⟨#[]⟩,sl⟩ w5.heap.size 1 rfl ?_ (by unfold maxLen;omega) (by omega) (by simp;omega) ?_)
       ·intro j u hj
        match j,hj with
        | 0,hj=>simp[Pc.cells] at hj;subst hj;go_simp
        | 1,hj=>simp[Pc.cells] at hj;subst hj;go_simp
        | n+2,hj=>simp[Pc.cells] at hj
       ·intro v' w3 hown hx3
        have hdis:∀ {k:Nat} {α:Type} {ea:α→List Value} {e:TypeId} {v:Value} {q:List α},Own ea k e (w.heap.size+1) w5 v q→e≠75→Own ea k e (w.heap.size+1) w3 v q:=fun h he=>(h.alloc _).ext hx3 (h.apart hO he)
        have hne:∀ b,Value.ownBlock (Value.slice (some ⟨g0,0,none⟩) (m0+1) c0)=some b→w.heap.size+1≤b:=fun b hb=>(hO.blk b hb).1
        have HB3:=Jh (Ext.new (HB2.out.alloc (by omega) _) hx3 (fun i hi _ e=>by have:=hne _ e;omega) (by simp;omega))
        have e5:=hx3.keep (Z2 e4 _) (fun e=>by have:=hne _ e;omega)
        have y3:=hx3.keep (Z2 y2 _) (fun e=>by have:=hne _ e;omega)
        have hs3:w.heap.size+1≤w3.heap.size:=by have:=hx3.size;simp at this;omega
        have HFo3:=Jh (hdis HFo2.out (by decide))
        obtain ⟨g,cap,nn,rfl⟩:∃ g c nn,v'=.slice (some ⟨g,0,none⟩) nn c:=by
         rcases hown.eq_slice with ⟨_,h⟩|⟨g,c,h,_⟩
         ·simp at h
         ·exact ⟨g,c,_,h⟩
        replace hown:Own Pc.cells 2 75 (w.heap.size+1) w3 (.slice (some ⟨g,0,none⟩) nn cap) ((vq++[(⟨t0,ps⟩:Pc)])++[⟨⟨#[]⟩,sl⟩]):=by first|exact hown|(rw[List.append_assoc];exact hown)|simpa using hown
        have HE3:Hid (∀ (j:Nat) (y:Pc),((vq++[(⟨t0,ps⟩:Pc)])++[(⟨⟨#[]⟩,sl⟩:Pc)])[j]?=some y→∃ al',((Q++[(t0,bl)])++[((⟨#[]⟩:ByteArray),al)])[j]?=some (y.t,al')∧Own Atr.cells 2 73 (w.heap.size+1) w3 y.s.val al'):=Jh (fun j y hj=>by
         by_cases hjv:j<List.length (vq++[(⟨t0,ps⟩:Pc)])
         ·rw[List.getElem?_append_left hjv] at hj
          rw[List.getElem?_append_left (by rw[←hvl];exact hjv)]
          obtain ⟨al',h1,h2⟩:=HE.out j y hj
          exact ⟨al',h1,hdis h2 (by decide)⟩
         ·have hj2:j=List.length (vq++[(⟨t0,ps⟩:Pc)]):=by
           have:=(List.getElem?_eq_some_iff.1 hj).1
           rw[List.length_append] at this
           have e1:List.length [(⟨⟨#[]⟩,sl⟩:Pc)]=1:=rfl
           rw[e1] at this
           omega
          subst hj2
          simp at hj
          subst hj
          rw[hvl]
          exact ⟨al,by simp,hdis HA4.out (by decide)⟩)
        clear hx3 hdis hne hO e4 y2 hs2 HB2 HA4 HFo2 HE
        have HT0:Hid (ByteArray.size (⟨#[]⟩:ByteArray)≤1000):=Jh (by decide)
        have HLQ:=Lib.hid hvl
        obtain ⟨k1,k2,k3,k4,k5,k6,k7,k8⟩:=Wc (Q:=(vq++[(⟨t0,ps⟩:Pc)])) (x:=⟨⟨#[]⟩,sl⟩) hown
        obtain ⟨m,hmq⟩:∃ m,List.length (α:=Pc) (vq++[(⟨t0,ps⟩:Pc)])=m:=⟨_,rfl⟩
        have hmb:List.length (α:=Pc) (vq++[(⟨t0,ps⟩:Pc)])≤1000:=by first|omega|(simp at hvl;simp;omega)|simp
        rw[hmq] at k1 k6 k7 k8 hmb
        first|subst k1|(obtain rfl:m=m0:=by omega)
        simp only at k6
        have HMQ:=Lib.hid hmq
        clear hmq
        have hbw3:b<w3.heap.size:=by have:=HB3.out.size;omega
        have HST:Hid (Yr x al (Q++[(t0,bl)])=(Q++[(t0,bl)])++[((⟨#[]⟩:ByteArray)++chB x.ch,al)]):=Jh (by rw[SG HK.out hbe,Rp])
        have hsum:∀ W,(Op.stringOp .add ((⟨#[]⟩:ByteArray)) (chB x.ch)).run Tryz.prog W=.ok (.string (((⟨#[]⟩:ByteArray))++chB x.ch)) W:=fun W=>run_string_add_sum W _ _ (by have e1:(chB x.ch).size=1:=rfl;have e2:=HT0.out;omega)
        have hcv:∀ W,W.cell? ⟨w3.heap.size,0,none⟩=some (.int .u8 (x.ch % 256))→(convert 64 9 (.slice (some ⟨w3.heap.size,0,none⟩) 1 1)).run Tryz.prog W=.ok (.string (chB x.ch)) W:=fun W h=>U6 W _ _ h
        go_upto_region 13 with fail
        go_region
        have hcl:=WP (t':=((⟨#[]⟩:ByteArray))++chB x.ch) (q1:=(vq++[(⟨t0,ps⟩:Pc)])) (q2:=(Q++[(t0,bl)])) hown HLQ.out HE3.out (.cells #[.int .u8 (x.ch % 256)] 5)
        rw[HMQ.out] at hcl
        have HCL:=Lib.hid hcl
        have hx4:Ext (·=g) w3 ((w3.setCell ⟨g,m*2,none⟩ (.string (((⟨#[]⟩:ByteArray))++chB x.ch))).alloc (.cells #[.int .u8 (x.ch % 256)] 5)).drew:=(((Ext.refl (·=g) w3).setCell (p:=⟨g,m*2,none⟩) (.inr rfl) _).alloc _).drew
        have hz4:=hx4.size
        have hFo4:=Jh (HFo3.out.ext hx4 (fun b hb e=>HFo3.out.apart hown (by decide) b hb (by rw[e];rfl)))
        clear hcl hown k6 k7 k8 hsum hcv y3 HE3
        go_wp2_with fail
        go_roundg (N - (n+1))
        case measure=>rw[HG.out];omega
        case rel=>exact ⟨n+1,rfl,by omega,by simp;omega,Jh (by rw[HS.out,HAL.out,HST.out];exact HCL.out),hFo4,hx4.keep e5 (by omega),Ext.new HB3.out hx4 (fun i hi _ e=>by omega) (by omega),by omega⟩
   ·obtain rfl:n=N:=by omega
    clear hg hB
    go_wp2_with fail
    go_ret
    refine ⟨_,rfl,Lib.hid ?_,HB.out⟩
    rw[HR.out]
    obtain ⟨vs,hO,hvl,hE⟩:=hP.out
    refine ⟨vs,hO.mono (by omega),hvl,fun j x hj=>?_⟩
    obtain ⟨al,h1,h2⟩:=hE j x hj
    exact ⟨al,h1,h2.mono (by omega)⟩
end Go.Proofs.YtlgipkemoldckaaGreatDoor
namespace Go.Proofs.YtlgipkemoldckaaGreatDoor
open Go.ChangeShapes Go.WideShapes Go.RowKit Go.Deep
section
variable {H:Type} {enc:TypeId × Value→H} {w:World} {base:Nat} {spare:Nat→Bool} {held:Bool}
end
section
variable {H:Type} {enc:TypeId × Value→H} {w:World} {base:Nat} {spare:Nat→Bool} {held:Bool}
end
theorem YL.shape {base:Nat} {W:World} {u:Value} {P:Pcs} (h:YL base W u P):∃ a c,u=.slice a P.length c∧P.length≤c∧c≤maxLen:=by
 obtain ⟨vs,h1,h2,h3⟩:=h
 obtain ⟨a,c,rfl,hc,hm,hh⟩:=h1.slice Pc.len
 exact ⟨a,c,by rw[h2],by omega,hm⟩
end Go.Proofs.YtlgipkemoldckaaGreatDoor
namespace Go.Proofs.YtlgipkemoldckaaGreatDoor
open Go.RowKit
section
variable {P:Program} {w:World} {α:Type} {ea:α→List Value} {k:Nat} {e:TypeId} {base:Nat} {v vx:Value} {l ys:List α}
theorem VR (t ty:TypeId) (i:TypeInfo) (ht:P.underlying t=some (.slice e)) (hi:P.info? e=some i) (b:Option Addr) (n cap c:Nat) (hc:n≤cap) :
  (Builtin.append_ #[t,t] ty #[.slice b n cap,.slice none 0 c]).run P w=.ok (.slice b n cap) w:=by
 cases b <;> simp[Builtin.append_,run_underlying ht,sizeOf,typeInfo,hi,Builtin.lenOf,Builtin.firstCells,loadCells,loadCellsFrom,storeCells,hc]
end
section
variable {P:Program} {ops:Array Oper} {Q:Exit→Act→World→Prop} {md:Region.Mode} {S:World→Prop}
end
inductive Nd where
 | mk (id:St) (kind:ByteArray) (attrs:List Atr) (text:Pcs) (kids:List Nd)
def Nd.id:Nd→St|.mk i _ _ _ _=>i
def Nd.kind:Nd→ByteArray|.mk _ k _ _ _=>k
def Nd.attrs:Nd→List Atr|.mk _ _ a _ _=>a
def Nd.text:Nd→Pcs|.mk _ _ _ t _=>t
def Nd.kids:Nd→List Nd|.mk _ _ _ _ l=>l
structure NdV where
 id:St
 kind:ByteArray
 attrs:Sl
 text:Sl
 kids:Sl
def NdV.cells (x:NdV):List Value:=[.int .i64 x.id.n,.int .i64 x.id.r,.string x.kind,.slice x.attrs.a x.attrs.n x.attrs.cap,.slice x.text.a x.text.n x.text.cap,.slice x.kids.a x.kids.n x.kids.cap]
theorem NdV.len (x:NdV):x.cells.length=6:=rfl
theorem NdV.one (x:NdV):∀ u∈x.cells,u.oneCell'=true:=by
 intro u hu
 simp only[NdV.cells,List.mem_cons,List.not_mem_nil,or_false] at hu
 rcases hu with rfl|rfl|rfl|rfl|rfl|rfl <;> rfl
def Zf {α:Type} (D:Nat→Prop) (ea:α→List Value) (k:Nat) (W:World) (v:Value) (l:List α):Prop :=
 Z6 ea k W v l∧∀ b o n c,v=.slice (some ⟨b,o,none⟩) n c→l≠[]→D b
theorem Zf.mono {α:Type} {D D':Nat→Prop} {ea:α→List Value} {k:Nat} {W:World} {v:Value} {l:List α} (h:Zf D ea k W v l) (hd:∀ b,D b→D' b):Zf D' ea k W v l :=
 ⟨h.1,fun b o n c e hl=>hd b (h.2 b o n c e hl)⟩
theorem Zf.ext {α:Type} {D S:Nat→Prop} {ea:α→List Value} {k:Nat} {W W':World} {v:Value} {l:List α} (h:Zf D ea k W v l) (hx:Ext S W W') (hd:∀ b,D b→b<W.heap.size→¬ S b) (hk:∀ x,0<(ea x).length):Zf D ea k W' v l:=by
 obtain ⟨⟨a,cap,rfl,h2,h3,h4⟩,h5⟩:=h
 refine ⟨⟨a,cap,rfl,h2,h3,fun hl=>?_⟩,h5⟩
 obtain ⟨b,off,rfl,h6⟩:=h4 hl
 refine ⟨b,off,rfl,fun i x hi j u hj=>hx.keep (h6 i x hi j u hj) (hd b (h5 b off _ _ rfl hl) (Zy (h6 i x hi j u hj)))⟩
theorem Own.sliceD {α:Type} {ea:α→List Value} {k:Nat} {e:TypeId} {base:Nat} {w:World} {v:Value} {l:List α} (h:Own ea k e base w v l) (hk:∀ x,(ea x).length=k):Zf (fun b=>v.ownBlock=some b) ea k w v l:=by
 refine ⟨h.slice hk,fun b o n c e1 hl=>?_⟩
 rcases h.eq_slice with ⟨e2,e3⟩|⟨g,cap,e2,_,_⟩
 ·exact absurd e3 hl
 ·rw[e1] at e2
  cases e2
  rw[e1]
  rfl
def ZN (D:Nat→Prop) (W:World) (u:Value) (P:Pcs):Prop :=
 ∃ vs:List Pc,Zf D Pc.cells 2 W u vs∧vs.length=P.length∧∀ (j:Nat) (x:Pc),vs[j]?=some x→∃ al,P[j]?=some (x.t,al)∧Zf D Atr.cells 2 W (.slice x.s.a x.s.n x.s.cap) al
theorem ZN.mono {D D':Nat→Prop} {W:World} {u:Value} {P:Pcs} (h:ZN D W u P) (hd:∀ b,D b→D' b):ZN D' W u P:=by
 obtain ⟨vs,h1,h2,h3⟩:=h
 refine ⟨vs,h1.mono hd,h2,fun j x hj=>?_⟩
 obtain ⟨al,h4,h5⟩:=h3 j x hj
 exact ⟨al,h4,h5.mono hd⟩
theorem ZN.ext {D S:Nat→Prop} {W W':World} {u:Value} {P:Pcs} (h:ZN D W u P) (hx:Ext S W W') (hd:∀ b,D b→b<W.heap.size→¬ S b):ZN D W' u P:=by
 obtain ⟨vs,h1,h2,h3⟩:=h
 refine ⟨vs,h1.ext hx hd (fun _=>Nat.zero_lt_succ 1),h2,fun j x hj=>?_⟩
 obtain ⟨al,h4,h5⟩:=h3 j x hj
 exact ⟨al,h4,h5.ext hx hd (fun _=>Nat.zero_lt_succ 1)⟩
theorem YL.toD {base:Nat} {W:World} {u:Value} {P:Pcs} (h:YL base W u P):ZN (fun b=>base≤b∧b<W.heap.size) W u P:=by
 obtain ⟨vs,h1,h2,h3⟩:=h
 refine ⟨vs,(h1.sliceD Pc.len).mono (fun b hb=>h1.blk b hb),h2,fun j x hj=>?_⟩
 obtain ⟨al,h4,h5⟩:=h3 j x hj
 exact ⟨al,h4,(h5.sliceD (fun _=>rfl)).mono (fun b hb=>h5.blk b hb)⟩
inductive Zh (D:Nat→Prop) (W:World):NdV→Nd→Prop
 | mk (x:NdV) (al:List Atr) (P:Pcs) (vs:List NdV) (ks:List Nd):Zf D Atr.cells 2 W (.slice x.attrs.a x.attrs.n x.attrs.cap) al→ZN D W (.slice x.text.a x.text.n x.text.cap) P →
   Zf D NdV.cells 6 W (.slice x.kids.a x.kids.n x.kids.cap) vs→vs.length=ks.length→(∀ (i:Nat) (y:NdV) (n:Nd),vs[i]?=some y→ks[i]?=some n→Zh D W y n)→Zh D W x (.mk x.id x.kind al P ks)
def Zc (D:Nat→Prop) (W:World) (vs:List NdV) (ks:List Nd):Prop:=vs.length=ks.length∧∀ (i:Nat) (y:NdV) (n:Nd),vs[i]?=some y→ks[i]?=some n→Zh D W y n
theorem Zh.mono {D D':Nat→Prop} {W:World} {x:NdV} {n:Nd} (h:Zh D W x n) (hd:∀ b,D b→D' b):Zh D' W x n:=by
 induction h with
 | mk x al P vs ks h1 h2 h3 h4 h5 ih=>exact .mk x al P vs ks (h1.mono hd) (h2.mono hd) (h3.mono hd) h4 ih
theorem Zh.ext {D S:Nat→Prop} {W W':World} {x:NdV} {n:Nd} (h:Zh D W x n) (hx:Ext S W W') (hd:∀ b,D b→b<W.heap.size→¬ S b):Zh D W' x n:=by
 induction h with
 | mk x al P vs ks h1 h2 h3 h4 h5 ih=>exact .mk x al P vs ks (h1.ext hx hd (fun _=>Nat.zero_lt_succ 1)) (h2.ext hx hd) (h3.ext hx hd (fun _=>Nat.zero_lt_succ 5)) h4 ih
theorem Zh.belowW {D:Nat→Prop} {W W':World} {x:NdV} {n:Nd} (h:Zh D W x n) (hb:Below W.heap.size W W'):Zh D W' x n :=
 h.ext (Ext.of_below (S:=fun _=>False) hb) (fun _ _ _ f=>f)
theorem Zc.mono {D D':Nat→Prop} {W:World} {vs:List NdV} {ks:List Nd} (h:Zc D W vs ks) (hd:∀ b,D b→D' b):Zc D' W vs ks:=⟨h.1,fun i y n h1 h2=>(h.2 i y n h1 h2).mono hd⟩
theorem Zc.ext {D S:Nat→Prop} {W W':World} {vs:List NdV} {ks:List Nd} (h:Zc D W vs ks) (hx:Ext S W W') (hd:∀ b,D b→b<W.heap.size→¬ S b):Zc D W' vs ks:=⟨h.1,fun i y n h1 h2=>(h.2 i y n h1 h2).ext hx hd⟩
theorem Zc.below {D:Nat→Prop} {W W':World} {vs:List NdV} {ks:List Nd} (h:Zc D W vs ks) (hb:Below W.heap.size W W'):Zc D W' vs ks:=⟨h.1,fun i y n h1 h2=>(h.2 i y n h1 h2).belowW hb⟩
theorem Zc.nil {D:Nat→Prop} {W:World}:Zc D W [] []:=⟨rfl,fun i y n h=>by simp at h⟩
theorem Zc.append {D:Nat→Prop} {W:World} {vs us:List NdV} {ks ls:List Nd} (h:Zc D W vs ks) (k:Zc D W us ls):Zc D W (vs++us) (ks++ls):=by
 refine ⟨by rw[List.length_append,List.length_append,h.1,k.1],fun i y n h1 h2=>?_⟩
 by_cases hi:i<vs.length
 ·rw[List.getElem?_append_left hi] at h1
  rw[List.getElem?_append_left (by rw[←h.1];exact hi)] at h2
  exact h.2 i y n h1 h2
 ·rw[List.getElem?_append_right (by omega)] at h1
  rw[List.getElem?_append_right (by rw[←h.1];omega),←h.1] at h2
  exact k.2 _ y n h1 h2
theorem Zc.one {D:Nat→Prop} {W:World} {x:NdV} {n:Nd} (h:Zh D W x n):Zc D W [x] [n]:=by
 refine ⟨rfl,fun i y m h1 h2=>?_⟩
 match i with
 | 0=>simp at h1 h2;subst h1;subst h2;exact h
 | i+1=>simp at h1
theorem Zh.parts {D:Nat→Prop} {W:World} {x:NdV} {n:Nd} (h:Zh D W x n):x.id=n.id∧x.kind=n.kind∧Zf D Atr.cells 2 W (.slice x.attrs.a x.attrs.n x.attrs.cap) n.attrs∧ZN D W (.slice x.text.a x.text.n x.text.cap) n.text ∧
  ∃ vs,Zf D NdV.cells 6 W (.slice x.kids.a x.kids.n x.kids.cap) vs∧Zc D W vs n.kids:=by
 cases h with
 | mk x al P vs ks h1 h2 h3 h4 h5=>exact ⟨rfl,rfl,h1,h2,vs,h3,h4,h5⟩
theorem Zh.make {D:Nat→Prop} {W:World} {x:NdV} {id:St} {kind:ByteArray} {al:List Atr} {P:Pcs} {vs:List NdV} {ks:List Nd} (e1:x.id=id) (e2:x.kind=kind) (h1:Zf D Atr.cells 2 W (.slice x.attrs.a x.attrs.n x.attrs.cap) al) (h2:ZN D W (.slice x.text.a x.text.n x.text.cap) P)
  (h3:Zf D NdV.cells 6 W (.slice x.kids.a x.kids.n x.kids.cap) vs) (h4:Zc D W vs ks):Zh D W x (.mk id kind al P ks):=by
 subst e1;subst e2
 exact .mk x al P vs ks h1 h2 h3 h4.1 h4.2
theorem ZN.at {D:Nat→Prop} {W:World} {u:Value} {P:Pcs} (h:ZN D W u P) {k:Nat} {t:ByteArray} {al:List Atr} (hk:P[k]?=some (t,al)) :
  ∃ (b o c:Nat) (s:Sl),u=.slice (some ⟨b,o,none⟩) P.length c∧P.length≤c∧c≤maxLen∧W.cell? ⟨b,o+k*2,none⟩=some (.string t)∧W.cell? ⟨b,o+k*2+1,none⟩=some (.slice s.a s.n s.cap)∧Z6 Atr.cells 2 W (.slice s.a s.n s.cap) al:=by
 obtain ⟨vs,h1,h2,h3⟩:=h
 obtain ⟨a,c,rfl,hc,hm,hh⟩:=h1.1
 have hkl:=(List.getElem?_eq_some_iff.1 hk).1
 obtain ⟨x,hx⟩:∃ x,vs[k]?=some x:=⟨_,List.getElem?_eq_getElem (by omega)⟩
 obtain ⟨b,o,rfl,hh1⟩:=hh (by intro e;rw[e] at hx;simp at hx)
 obtain ⟨al',h4,h5⟩:=h3 k x hx
 rw[hk] at h4
 simp only[Option.some.injEq,Prod.mk.injEq] at h4
 obtain ⟨rfl,rfl⟩:=h4
 exact ⟨b,o,c,x.s,by rw[h2],by omega,hm,hh1 k x hx 0 _ rfl,hh1 k x hx 1 _ rfl,h5.1⟩
theorem ZN.shape {D:Nat→Prop} {W:World} {u:Value} {P:Pcs} (h:ZN D W u P):∃ a c,u=.slice a P.length c∧P.length≤c∧c≤maxLen:=by
 obtain ⟨vs,h1,h2,h3⟩:=h
 obtain ⟨a,c,rfl,hc,hm,hh⟩:=h1.1
 exact ⟨a,c,by rw[h2],by omega,hm⟩
theorem RA {P Q:Pcs} {k:Nat} {x y:ByteArray × List Atr} (hx:P[k]?=some x) (hy:Q[k]?=some y) (h:x≠y):decide (P=Q)=false:=by
 rw[decide_eq_false_iff_not]
 intro e
 rw[e,hy] at hx
 exact h (Option.some.inj hx).symm
theorem Te (D1 D2:Nat→Prop) (u1 u2:Value) (P Q:Pcs) (w:World) (h1:ZN D1 w u1 P) (h2:ZN D2 w u2 Q) :
  Calls Tryz.prog 34 #[u1,u2] w fun e w'=>e=.returned (.bool (decide (P=Q)))∧Below w.heap.size w w':=by
 obtain ⟨a1,c1,rfl,hc1,hm1⟩:=h1.shape
 obtain ⟨a2,c2,rfl,hc2,hm2⟩:=h2.shape
 unfold maxLen at hm1 hm2
 have H1:=Lib.hid h1
 have H2:=Lib.hid h2
 clear h1 h2
 by_cases hl:P.length=Q.length
 ·have HL:=Lib.hid hl
  have hl1:(((P.length:Nat):Int) != ((Q.length:Nat):Int))=false:=by simp[hl]
  clear hl
  go_enter Tryz.func34,Tryz.ntmps34
  go_wp2_with fail
  go_loopg [5] P.length (fun g iv wr=>∃ k:Nat,g=P.length - k∧k≤P.length∧iv=.int .i64 k∧Hid (∀ j,j<k→P[j]?=Q[j]?)∧Below w.heap.size w wr)
  case atStart=>exact ⟨0,by omega,by omega,rfl,fun j hj=>absurd hj (by omega),Below.refl _ _⟩
  case round =>
   obtain ⟨k,hg,hk,rfl,HP,hB⟩:=hrel
   have HG:=Lib.hid hg
   by_cases hkl:k<P.length
   ·obtain ⟨⟨t,al⟩,hx⟩:∃ x,P[k]?=some x:=⟨_,List.getElem?_eq_getElem hkl⟩
    obtain ⟨⟨s,bl⟩,hy⟩:∃ x,Q[k]?=some x:=⟨_,List.getElem?_eq_getElem (by rw[←HL.out];exact hkl)⟩
    obtain ⟨ba,oa,ca,sa,e1,_,_,ta,ma,ya⟩:=(H1.out.ext (Ext.of_below (S:=fun _=>False) hB) (fun _ _ _ f=>f)).at hx
    cases e1
    obtain ⟨bb,ob,cb,sb,e2,_,_,tb,mb,yb⟩:=(H2.out.ext (Ext.of_below (S:=fun _=>False) hB) (fun _ _ _ f=>f)).at hy
    cases e2
    have hkk:(k:Int)<(P.length:Int):=by omega
    have hkq:(k:Int)<(Q.length:Int):=by have:=HL.out;omega
    have HB:=Lib.hid hB
    have HX:=Lib.hid hx
    have HY:=Lib.hid hy
    obtain ⟨sm,hsm⟩:=Je (decide (al=bl))
    have HSM:=Lib.hid hsm
    have HC:Hid (∀ (W:World),Z6 Atr.cells 2 W (.slice sa.a sa.n sa.cap) al→Z6 Atr.cells 2 W (.slice sb.a sb.n sb.cap) bl→Calls Tryz.prog 33 #[.slice sa.a sa.n sa.cap,.slice sb.a sb.n sb.cap] W fun e w'=>e=.returned (.bool sm)∧Below W.heap.size W w'):=Jh (fun W g1 g2=>by rw[←hsm];exact Tw _ _ al bl W g1 g2)
    clear hg hB hx hy hsm
    go_upto_region 6 with fail
    go_region_held3 (fun W=>W.cell? ⟨ba,oa+k*2+1,none⟩=some (.slice sa.a sa.n sa.cap)∧W.cell? ⟨bb,ob+k*2+1,none⟩=some (.slice sb.a sb.n sb.cap)) (first|exact ⟨ma,mb⟩|exact ⟨Z0 b5 ma,Z0 b5 mb⟩) ((go_at_call 33;((with_reducible refine (HC.out _ ya.drew yb.drew).mono ?_);rintro e w5 ⟨rfl,b5⟩;simp only[ZI,ZA] at b5)))
    all_goals
     have hB5:=HB.out.trans (b5.mono HB.out.size)
     have ta5:=Z0 b5 ta
     have tb5:=Z0 b5 tb
     have HB5:=Lib.hid hB5
     clear ta ma tb mb ya yb b5 hB5 HC
     cases sm with
     | false =>
      have hne:decide (P=Q)=false:=RA HX.out HY.out (fun e=>by have:=HSM.out;rw[decide_eq_false_iff_not] at this;exact this (Prod.mk.inj e).2)
      have HR:=Lib.hid hne
      clear hne
      go_upto_region 7 with fail
      go_quiet (fail)
      go_wp2_with fail
      go_ret
      exact ⟨by rw[HR.out];rfl,by first|exact below_drewN HB5.out _|exact below_drewN HB5.out.drew _⟩
     | true =>
      have hal:al=bl:=by have:=HSM.out;rwa [decide_eq_true_eq] at this
      by_cases hts:t=s
      ·subst hts
       have HN:Hid (∀ j,j<k+1→P[j]?=Q[j]?):=Jh (fun j hj=>by
        by_cases hjk:j<k
        ·exact HP.out j hjk
        ·have:j=k:=by omega
         subst this
         rw[HX.out,HY.out,hal])
       clear hal
       go_upto_region 7 with fail
       go_quiet (fail)
       go_wp2_with fail
       go_roundg (P.length - (k+1))
       case measure=>rw[HG.out];omega
       case rel=>exact ⟨k+1,rfl,by omega,by simp,HN,by first|exact below_drewN HB5.out _|exact below_drewN HB5.out.drew _⟩
      ·have hne:decide (P=Q)=false:=RA HX.out HY.out (fun e=>hts (Prod.mk.inj e).1)
       have HR:=Lib.hid hne
       have hts2:(t.toList == s.toList)=false:=by simpa using fun e=>hts ((ZT _ _).1 e)
       clear hne hal hts
       go_upto_region 7 with fail
       go_quiet (fail)
       go_wp2_with fail
       go_ret
       exact ⟨by rw[HR.out];rfl,by first|exact below_drewN HB5.out _|exact below_drewN HB5.out.drew _⟩
   ·have hres:decide (P=Q)=true:=by
     rw[decide_eq_true_eq]
     exact Wv HL.out HP.out (by omega)
    have HR:=Lib.hid hres
    clear hres
    go_wp2_with fail
    go_ret
    exact ⟨by rw[HR.out];rfl,hB⟩
 ·have hres:decide (P=Q)=false:=by
   rw[decide_eq_false_iff_not]
   intro e
   exact hl (by rw[e])
  rw[hres]
  clear hres
  have hl1:(((P.length:Nat):Int) != ((Q.length:Nat):Int))=true:=by simp;omega
  go_enter Tryz.func34,Tryz.ntmps34
  go_wp2_with fail
  go_ret
  exact ⟨rfl,Below.refl _ _⟩
def Zm (a:Atr):List UInt8:=32 :: (a.name.toList++61 :: Za a.value.toList)
def Zl (a:Atr):List UInt8:=a.name.toList++61 :: (Za a.value.toList++[58])
def pcL (p:ByteArray × List Atr):List UInt8:=32 :: (p.2.flatMap Zl++Za p.1.toList)
def idL (s:St):List UInt8:=if s=⟨0,0⟩ then [] else 32 :: 35 :: stL s
def ZP (id:St) (k:ByteArray) (a:List Atr) (t:Pcs):List UInt8:=k.toList++(idL id++(a.flatMap Zm++t.flatMap pcL))
mutual
def txN (d:Nat):Nd→List UInt8
 | .mk id k a t l=>List.replicate (2*d) 32++(ZP id k a t++10 :: txK (d+1) l)
def txK (d:Nat):List Nd→List UInt8
 | []=>[]
 | n :: l=>txN d n++txK d l
end
def X3 (c:UInt8):Bool:=decide (97≤c.toNat∧c.toNat≤122)
def Vx (c:UInt8):Bool:=decide (48≤c.toNat∧c.toNat≤57)
def Xs (p:UInt8→Bool) (a:List UInt8):Prop:=∀ c r,a=c :: r→p c=false
theorem V4 {p:UInt8→Bool}:∀ {u v a b:List UInt8},(∀ c∈u,p c=true)→(∀ c∈v,p c=true)→Xs p a→Xs p b→u++a=v++b→u=v∧a=b
 | [],[],a,b,_,_,_,_,h=>⟨rfl,h⟩
 | [],c :: v,a,b,_,hv,ha,_,h=>by
  have:=ha c (v++b) h
  rw[hv c (by simp)] at this
  cases this
 | c :: u,[],a,b,hu,_,_,hb,h=>by
  have:=hb c (u++a) h.symm
  rw[hu c (by simp)] at this
  cases this
 | c :: u,c' :: v,a,b,hu,hv,ha,hb,h=>by
  simp only[List.cons_append,List.cons.injEq] at h
  obtain ⟨h1,h2⟩:=V4 (fun x hx=>hu x (by simp[hx])) (fun x hx=>hv x (by simp[hx])) ha hb h.2
  exact ⟨by rw[h.1,h1],h2⟩
theorem U8:∀ {s t a b:List UInt8},s.flatMap Zr++34 :: a=t.flatMap Zr++34 :: b→s=t∧a=b
 | [],[],a,b,h=>by simpa using h
 | [],c :: t,a,b,h=>by
  rw[List.flatMap_cons,Zr] at h
  split at h
  ·simp at h
  ·rename_i hc
   simp at h
   exact absurd (.inl h.1.symm) hc
 | c :: s,[],a,b,h=>by
  rw[List.flatMap_cons,Zr] at h
  split at h
  ·simp at h
  ·rename_i hc
   simp at h
   exact absurd (.inl h.1) hc
 | c :: s,c' :: t,a,b,h=>by
  rw[List.flatMap_cons,List.flatMap_cons,Zr,Zr] at h
  split at h <;> split at h
  ·simp only[List.cons_append,List.nil_append,List.cons.injEq,true_and,List.append_assoc] at h
   obtain ⟨h1,h2⟩:=U8 h.2
   exact ⟨by rw[h.1,h1],h2⟩
  ·rename_i hc
   simp only[List.cons_append,List.nil_append,List.cons.injEq,List.append_assoc] at h
   exact absurd (.inr h.1.symm) hc
  ·rename_i hc _
   simp only[List.cons_append,List.nil_append,List.cons.injEq,List.append_assoc] at h
   exact absurd (.inr h.1) hc
  ·simp only[List.cons_append,List.nil_append,List.cons.injEq,List.append_assoc] at h
   obtain ⟨h1,h2⟩:=U8 h.2
   exact ⟨by rw[h.1,h1],h2⟩
theorem WB {s t a b:List UInt8} (h:Za s++a=Za t++b):s=t∧a=b:=by
 unfold Za at h
 simp only[List.cons_append,List.append_assoc,List.nil_append,List.cons.injEq,true_and] at h
 exact U8 h
theorem XF (s a:List UInt8):∃ r,Za s++a=34 :: r:=⟨_,rfl⟩
theorem W8 (k:Nat) (h:k<10):Vx (UInt8.ofNat (48+k))=true∧(UInt8.ofNat (48+k)).toNat=48+k:=by
 have:(UInt8.ofNat (48+k)).toNat=48+k:=by
  rw[UInt8.toNat_ofNat'];omega
 exact ⟨by rw[Vx,this,decide_eq_true_eq];omega,this⟩
theorem WE (u:Nat):∀ c∈Lib.decDigits u,Vx c=true:=by
 induction u using Nat.strongRecOn with
 | _ u ih =>
  rw[Lib.decDigits]
  split
  ·rename_i h
   intro c hc
   rw[List.mem_singleton.1 hc]
   exact (W8 u h).1
  ·intro c hc
   rw[List.mem_append,List.mem_singleton] at hc
   rcases hc with hc|rfl
   ·exact ih _ (by omega) c hc
   ·exact (W8 _ (Nat.mod_lt _ (by omega))).1
def Tl (l:List UInt8):Nat:=l.foldl (fun a c=>10*a+(c.toNat - 48)) 0
theorem VC (u:Nat):Tl (Lib.decDigits u)=u:=by
 induction u using Nat.strongRecOn with
 | _ u ih =>
  rw[Lib.decDigits]
  split
  ·rename_i h
   simp only[Tl,List.foldl_cons,List.foldl_nil,(W8 u h).2]
   omega
  ·have:=ih (u / 10) (by omega)
   unfold Tl at this ⊢
   rw[List.foldl_append,this]
   simp only[List.foldl_cons,List.foldl_nil,(W8 _ (Nat.mod_lt u (by omega:10 > 0))).2]
   omega
theorem S8 {u v:Nat} (h:Lib.decDigits u=Lib.decDigits v):u=v:=by
 rw[←VC u,←VC v,h]
theorem QW {s t:St} {a b:List UInt8} (hs:Ze s=true) (ht:Ze t=true) (ha:Xs Vx a) (hb:Xs Vx b) (h:stL s++a=stL t++b):s=t∧a=b:=by
 unfold stL at h
 rw[if_neg (by rw[hs];simp),if_neg (by rw[ht];simp)] at h
 simp only[Ze,decide_eq_true_eq] at hs ht
 unfold Lib.itoa at h
 rw[if_neg (by omega),if_neg (by omega),if_neg (by omega),if_neg (by omega)] at h
 simp only[List.append_assoc,List.cons_append] at h
 have n46:∀ r,Xs Vx (46 :: r):=fun r c r' e=>by cases e;rfl
 obtain ⟨h1,h2⟩:=V4 (WE _) (WE _) (n46 _) (n46 _) h
 simp only[List.cons.injEq,true_and] at h2
 obtain ⟨h3,h4⟩:=V4 (WE _) (WE _) ha hb h2
 have e1:=S8 h1
 have e2:=S8 h3
 refine ⟨?_,h4⟩
 obtain ⟨sn,sr⟩:=s
 obtain ⟨tn,tr⟩:=t
 simp only at *
 rw[show sn=tn by omega,show sr=tr by omega]
def Zu (b:ByteArray):Prop:=b.toList≠[]∧∀ c∈b.toList,X3 c=true
theorem Zu.head {b:ByteArray} (h:Zu b) (a:List UInt8):∃ c r,b.toList++a=c :: r∧X3 c=true:=by
 obtain ⟨h1,h2⟩:=h
 cases e:b.toList with
 | nil=>exact absurd e h1
 | cons c r=>exact ⟨c,r++a,rfl,h2 c (by rw[e];simp)⟩
theorem V1 {u v:ByteArray} {a b:List UInt8} (hu:Zu u) (hv:Zu v) (ha:Xs X3 a) (hb:Xs X3 b) (h:u.toList++a=v.toList++b):u=v∧a=b:=by
 obtain ⟨h1,h2⟩:=V4 hu.2 hv.2 ha hb h
 exact ⟨(ZT _ _).1 h1,h2⟩
theorem YX {p:UInt8→Bool} {c:UInt8} {r:List UInt8} (h:p c=false):Xs p (c :: r):=fun c' r' e=>by cases e;exact h
theorem Wn {c:UInt8} (h:X3 c=true) (k:UInt8) (hk:X3 k=false):c≠k:=fun e=>by rw[e,hk] at h;cases h
theorem UY:∀ {m m':List Atr} {x y a b:List UInt8},(∀ z∈m,Zu z.name)→(∀ z∈m',Zu z.name)→m.flatMap Zl++(Za x++a)=m'.flatMap Zl++(Za y++b)→m=m'∧x=y∧a=b
 | [],[],x,y,a,b,_,_,h=>by
  obtain ⟨h1,h2⟩:=WB (by simpa using h)
  exact ⟨rfl,h1,h2⟩
 | [],z :: m',x,y,a,b,_,hw,h=>by
  rw[List.flatMap_cons,Zl] at h
  obtain ⟨c,r,h1,h2⟩:=(hw z (by simp)).head (61 :: (Za z.value.toList++[58])++(m'.flatMap Zl++(Za y++b)))
  obtain ⟨r2,h3⟩:=XF x a
  simp only[List.flatMap_nil,List.nil_append,List.append_assoc,List.cons_append] at h h1
  rw[h1,h3] at h
  exact absurd (List.cons.inj h).1.symm (Wn h2 34 (by decide))
 | z :: m,[],x,y,a,b,hw,_,h=>by
  rw[List.flatMap_cons,Zl] at h
  obtain ⟨c,r,h1,h2⟩:=(hw z (by simp)).head (61 :: (Za z.value.toList++[58])++(m.flatMap Zl++(Za x++a)))
  obtain ⟨r2,h3⟩:=XF y b
  simp only[List.flatMap_nil,List.nil_append,List.append_assoc,List.cons_append] at h h1
  rw[h1,h3] at h
  exact absurd (List.cons.inj h).1 (Wn h2 34 (by decide))
 | z :: m,z' :: m',x,y,a,b,hw,hw',h=>by
  rw[List.flatMap_cons,List.flatMap_cons,Zl,Zl] at h
  simp only[List.append_assoc,List.cons_append,List.nil_append] at h
  obtain ⟨h1,h2⟩:=V1 (hw z (by simp)) (hw' z' (by simp)) (YX (by decide)) (YX (by decide)) h
  simp only[List.cons.injEq,true_and] at h2
  obtain ⟨h3,h4⟩:=WB h2
  simp only[List.cons.injEq,true_and] at h4
  obtain ⟨h5,h6⟩:=UY (fun q hq=>hw q (by simp[hq])) (fun q hq=>hw' q (by simp[hq])) h4
  refine ⟨?_,h6⟩
  obtain ⟨zn,zv⟩:=z
  obtain ⟨zn',zv'⟩:=z'
  simp only at h1 h3
  rw[h1,(ZT _ _).1 h3,h5]
theorem UI:∀ {t t':Pcs} {a b:List UInt8},(∀ p∈t,∀ z∈p.2,Zu z.name)→(∀ p∈t',∀ z∈p.2,Zu z.name)→t.flatMap pcL++10 :: a=t'.flatMap pcL++10 :: b→t=t'∧a=b
 | [],[],a,b,_,_,h=>⟨rfl,by simpa using h⟩
 | [],p :: t',a,b,_,_,h=>by rw[List.flatMap_cons,pcL] at h;simp at h
 | p :: t,[],a,b,_,_,h=>by rw[List.flatMap_cons,pcL] at h;simp at h
 | p :: t,p' :: t',a,b,hw,hw',h=>by
  rw[List.flatMap_cons,List.flatMap_cons,pcL,pcL] at h
  simp only[List.append_assoc,List.cons_append,List.cons.injEq,true_and] at h
  obtain ⟨h1,h2,h3⟩:=UY (fun z hz=>hw p (by simp) z hz) (fun z hz=>hw' p' (by simp) z hz) h
  obtain ⟨h4,h5⟩:=UI (fun q hq=>hw q (by simp[hq])) (fun q hq=>hw' q (by simp[hq])) h3
  refine ⟨?_,h5⟩
  obtain ⟨pt,pm⟩:=p
  obtain ⟨pt',pm'⟩:=p'
  simp only at h1 h2
  rw[h1,(ZT _ _).1 h2,h4]
theorem RK {z:Atr} {t:Pcs} {a b:List UInt8} (hz:Zu z.name) (ht:∀ p∈t,∀ x∈p.2,Zu x.name) (hb:∀ c r,b=c :: r→c≠58):Zm z++b≠t.flatMap pcL++10 :: a:=by
 intro h
 cases t with
 | nil=>rw[Zm] at h;simp at h
 | cons p t =>
  rw[List.flatMap_cons,pcL,Zm] at h
  simp only[List.append_assoc,List.cons_append,List.cons.injEq,true_and] at h
  obtain ⟨pt,pm⟩:=p
  cases pm with
  | nil =>
   obtain ⟨c,r,h1,h2⟩:=hz.head (61 :: (Za z.value.toList++b))
   obtain ⟨r2,h3⟩:=XF pt.toList (t.flatMap pcL++10 :: a)
   simp only[List.flatMap_nil,List.nil_append] at h
   rw[h1,h3] at h
   exact absurd (List.cons.inj h).1 (Wn h2 34 (by decide))
  | cons m pm =>
   rw[List.flatMap_cons,Zl] at h
   simp only[List.append_assoc,List.cons_append,List.nil_append] at h
   obtain ⟨h1,h2⟩:=V1 hz (ht (pt,m :: pm) (by simp) m (by simp)) (YX (by decide)) (YX (by decide)) h
   simp only[List.cons.injEq,true_and] at h2
   obtain ⟨h3,h4⟩:=WB h2
   exact hb _ _ h4 rfl
theorem V6 {az:List Atr} {t:Pcs} {a:List UInt8}:∀ c r,az.flatMap Zm++(t.flatMap pcL++10 :: a)=c :: r→c=32∨c=10:=by
 intro c r h
 cases az with
 | cons z az=>rw[List.flatMap_cons,Zm] at h;simp at h;exact .inl h.1.symm
 | nil =>
  cases t with
  | cons p t=>rw[List.flatMap_cons,pcL] at h;simp at h;exact .inl h.1.symm
  | nil=>simp at h;exact .inr h.1.symm
theorem Vs:∀ {az az':List Atr} {t t':Pcs} {a b:List UInt8},(∀ z∈az,Zu z.name)→(∀ z∈az',Zu z.name)→(∀ p∈t,∀ z∈p.2,Zu z.name)→(∀ p∈t',∀ z∈p.2,Zu z.name) →
  az.flatMap Zm++(t.flatMap pcL++10 :: a)=az'.flatMap Zm++(t'.flatMap pcL++10 :: b)→az=az'∧t=t'∧a=b
 | [],[],t,t',a,b,_,_,ht,ht',h=>by
  obtain ⟨h1,h2⟩:=UI ht ht' (by simpa using h)
  exact ⟨rfl,h1,h2⟩
 | [],z :: az',t,t',a,b,_,hw,ht,ht',h=>by
  rw[List.flatMap_cons,List.append_assoc] at h
  exact absurd h.symm (RK (hw z (by simp)) ht (fun c r e=>by rcases V6 c r e with rfl|rfl <;> decide))
 | z :: az,[],t,t',a,b,hw,_,ht,ht',h=>by
  rw[List.flatMap_cons,List.append_assoc] at h
  exact absurd h (RK (hw z (by simp)) ht' (fun c r e=>by rcases V6 c r e with rfl|rfl <;> decide))
 | z :: az,z' :: az',t,t',a,b,hw,hw',ht,ht',h=>by
  rw[List.flatMap_cons,List.flatMap_cons,Zm,Zm] at h
  simp only[List.append_assoc,List.cons_append,List.cons.injEq,true_and] at h
  obtain ⟨h1,h2⟩:=V1 (hw z (by simp)) (hw' z' (by simp)) (YX (by decide)) (YX (by decide)) h
  simp only[List.cons.injEq,true_and] at h2
  obtain ⟨h3,h4⟩:=WB h2
  obtain ⟨h5,h6⟩:=Vs (fun q hq=>hw q (by simp[hq])) (fun q hq=>hw' q (by simp[hq])) ht ht' h4
  refine ⟨?_,h6⟩
  obtain ⟨zn,zv⟩:=z
  obtain ⟨zn',zv'⟩:=z'
  simp only at h1 h3
  rw[h1,(ZT _ _).1 h3,h5]
theorem Tu {az:List Atr} {t:Pcs} {a r:List UInt8} (hw:∀ z∈az,Zu z.name) (ht:∀ p∈t,∀ z∈p.2,Zu z.name):az.flatMap Zm++(t.flatMap pcL++10 :: a)≠32 :: 35 :: r:=by
 intro h
 cases az with
 | cons z az =>
  rw[List.flatMap_cons,Zm] at h
  simp only[List.append_assoc,List.cons_append,List.cons.injEq,true_and] at h
  obtain ⟨c,r2,h1,h2⟩:=(hw z (by simp)).head (61 :: (Za z.value.toList++(az.flatMap Zm++(t.flatMap pcL++10 :: a))))
  rw[h1] at h
  exact Wn h2 35 (by decide) (List.cons.inj h).1
 | nil =>
  cases t with
  | nil=>simp at h
  | cons p t =>
   rw[List.flatMap_cons,pcL] at h
   simp only[List.flatMap_nil,List.nil_append,List.append_assoc,List.cons_append,List.cons.injEq,true_and] at h
   obtain ⟨pt,pm⟩:=p
   cases pm with
   | nil =>
    obtain ⟨r2,h3⟩:=XF pt.toList (t.flatMap pcL++10 :: a)
    simp only[List.flatMap_nil,List.nil_append] at h
    rw[h3] at h
    simp at h
   | cons m pm =>
    rw[List.flatMap_cons,Zl] at h
    simp only[List.append_assoc,List.cons_append,List.nil_append] at h
    obtain ⟨c,r2,h1,h2⟩:=(ht (pt,m :: pm) (by simp) m (by simp)).head (61 :: (Za m.value.toList++(58 :: (pm.flatMap Zl++(Za pt.toList++(t.flatMap pcL++10 :: a))))))
    rw[h1] at h
    exact Wn h2 35 (by decide) (List.cons.inj h).1
def U2 (s:St):Prop:=Ze s=true∨s=⟨0,0⟩
theorem QM {i i':St} {k k':ByteArray} {az az':List Atr} {t t':Pcs} {a b:List UInt8} (hi:U2 i) (hi':U2 i') (hk:Zu k) (hk':Zu k') (hw:∀ z∈az,Zu z.name) (hw':∀ z∈az',Zu z.name) (ht:∀ p∈t,∀ z∈p.2,Zu z.name) (ht':∀ p∈t',∀ z∈p.2,Zu z.name)
  (h:ZP i k az t++10 :: a=ZP i' k' az' t'++10 :: b):i=i'∧k=k'∧az=az'∧t=t'∧a=b:=by
 unfold ZP at h
 simp only[List.append_assoc] at h
 have st:∀ (j:St) (xs:List Atr) (ys:Pcs) (c:List UInt8),Xs X3 (idL j++(xs.flatMap Zm++(ys.flatMap pcL++10 :: c))):=fun j xs ys c q r e=>by
  unfold idL at e
  split at e
  ·rcases V6 q r (by simpa using e) with rfl|rfl <;> decide
  ·simp at e;rw[←e.1];decide
 have sd:∀ (xs:List Atr) (ys:Pcs) (c:List UInt8),Xs Vx (xs.flatMap Zm++(ys.flatMap pcL++10 :: c)):=fun xs ys c q r e=>by
  rcases V6 q r e with rfl|rfl <;> decide
 obtain ⟨h1,h2⟩:=V1 hk hk' (st _ _ _ _) (st _ _ _ _) h
 unfold idL at h2
 by_cases e:i=⟨0,0⟩ <;> by_cases e':i'=⟨0,0⟩
 ·rw[if_pos e,if_pos e'] at h2
  obtain ⟨h3,h4,h5⟩:=Vs hw hw' ht ht' (by simpa using h2)
  exact ⟨by rw[e,e'],h1,h3,h4,h5⟩
 ·rw[if_pos e,if_neg e'] at h2
  exact absurd (by simpa using h2) (Tu hw ht)
 ·rw[if_neg e,if_pos e'] at h2
  exact absurd (by simpa using h2.symm) (Tu hw' ht')
 ·rw[if_neg e,if_neg e'] at h2
  simp only[List.cons_append,List.cons.injEq,true_and] at h2
  obtain ⟨h3,h4⟩:=QW (hi.resolve_right e) (hi'.resolve_right e') (sd _ _ _) (sd _ _ _) h2
  obtain ⟨h5,h6,h7⟩:=Vs hw hw' ht ht' h4
  exact ⟨h3,h1,h5,h6,h7⟩
inductive ZO:Nd→Prop
 | mk (i:St) (k:ByteArray) (az:List Atr) (t:Pcs) (l:List Nd):U2 i→Zu k→(∀ z∈az,Zu z.name)→(∀ p∈t,∀ z∈p.2,Zu z.name)→(∀ n∈l,ZO n)→ZO (.mk i k az t l)
def W7 (d:Nat) (r:List UInt8):Prop:=r=[]∨∃ k c r',k≤d∧X3 c=true∧r=List.replicate (2*k) 32++c :: r'
theorem Nd.ind {p:Nd→Prop} (h:∀ i k az t l,(∀ n∈l,p n)→p (.mk i k az t l)):∀ n,p n
 | .mk i k az t l=>h i k az t l (fun n hn=>Nd.ind h n)
termination_by n=>SizeOf.sizeOf n
decreasing_by
 have:=List.sizeOf_lt_of_mem hn
 simp only[Nd.mk.sizeOf_spec]
 omega
theorem Vy {d:Nat} {n:Nd} (h:ZO n) (r:List UInt8):∃ c r',X3 c=true∧txN d n++r=List.replicate (2*d) 32++c :: r':=by
 cases h with
 | mk i k az t l h1 h2 h3 h4 h5 =>
  rw[txN,ZP]
  obtain ⟨c,r',e1,e2⟩:=h2.head ((idL i++(az.flatMap Zm++t.flatMap pcL))++(10 :: txK (d+1) l++r))
  refine ⟨c,r',e2,?_⟩
  rw[←e1]
  simp only[List.append_assoc,List.cons_append]
theorem Ry {j k:Nat} {c:UInt8} {x y:List UInt8} (hc:X3 c=true) (h:List.replicate j 32++c :: x=List.replicate k 32++y):k≤j:=by
 by_cases hjk:k≤j
 ·exact hjk
 ·exfalso
  have this:(List.replicate j (32:UInt8)++c :: x)[j]?=(List.replicate k (32:UInt8)++y)[j]?:=by rw[h]
  rw[List.getElem?_append_right (by simp),List.getElem?_append_left (by simp;omega)] at this
  simp at this
  rw[List.getElem?_replicate,if_pos (by omega)] at this
  simp at this
  exact Wn hc 32 (by decide) this
theorem UE:∀ {l l':List Nd} {d:Nat} {r r':List UInt8},(∀ n∈l,ZO n)→(∀ n∈l',ZO n)→W7 d r→W7 d r' →
  (∀ n∈l,∀ (n':Nd) (a b:List UInt8),ZO n'→W7 (d+1) a→W7 (d+1) b→txN (d+1) n++a=txN (d+1) n'++b→n=n'∧a=b) →
  txK (d+1) l++r=txK (d+1) l'++r'→l=l'∧r=r'
 | [],[],d,r,r',_,_,_,_,_,h=>⟨rfl,by simpa [txK] using h⟩
 | [],n :: l',d,r,r',_,hg,hr,_,_,h=>by
  exfalso
  rw[txK,txK,List.nil_append,List.append_assoc] at h
  obtain ⟨c,x,e1,e2⟩:=Vy (d:=d+1) (hg n (by simp)) (txK (d+1) l'++r')
  rw[e2] at h
  rcases hr with rfl|⟨k,c',y,h1,h2,rfl⟩
  ·simp at h
  ·have:=Ry h2 h
   omega
 | n :: l,[],d,r,r',hg,_,_,hr,_,h=>by
  exfalso
  rw[txK,txK,List.nil_append,List.append_assoc] at h
  obtain ⟨c,x,e1,e2⟩:=Vy (d:=d+1) (hg n (by simp)) (txK (d+1) l++r)
  rw[e2] at h
  rcases hr with rfl|⟨k,c',y,h1,h2,rfl⟩
  ·simp at h
  ·have:=Ry h2 h.symm
   omega
 | n :: l,n' :: l',d,r,r',hg,hg',hr,hr',ih,h=>by
  rw[txK,txK,List.append_assoc,List.append_assoc] at h
  have rest:∀ (l:List Nd) (r:List UInt8),(∀ n∈l,ZO n)→W7 d r→W7 (d+1) (txK (d+1) l++r):=fun l r hg hr=>by
   cases l with
   | nil =>
    rw[txK,List.nil_append]
    rcases hr with rfl|⟨k,c',y,h1,h2,rfl⟩
    ·exact .inl rfl
    ·exact .inr ⟨k,c',y,by omega,h2,rfl⟩
   | cons n l =>
    rw[txK,List.append_assoc]
    obtain ⟨c,x,e1,e2⟩:=Vy (d:=d+1) (hg n (by simp)) (txK (d+1) l++r)
    exact .inr ⟨d+1,c,x,Nat.le_refl _,e1,e2⟩
  obtain ⟨h1,h2⟩:=ih n (by simp) n' _ _ (hg' n' (by simp)) (rest l r (fun q hq=>hg q (by simp[hq])) hr) (rest l' r' (fun q hq=>hg' q (by simp[hq])) hr') h
  obtain ⟨h3,h4⟩:=UE (fun q hq=>hg q (by simp[hq])) (fun q hq=>hg' q (by simp[hq])) hr hr' (fun q hq=>ih q (by simp[hq])) h2
  exact ⟨by rw[h1,h3],h4⟩
theorem QR (n:Nd):∀ (d:Nat) (n':Nd) (r r':List UInt8),ZO n→ZO n'→W7 d r→W7 d r'→txN d n++r=txN d n'++r'→n=n'∧r=r':=by
 induction n using Nd.ind with
 | _ i k az t l ih =>
  rintro d ⟨i',k',az',t',l'⟩ r r' hg hg' hr hr' h
  cases hg with
  | mk _ _ _ _ _ g1 g2 g3 g4 g5 =>
   cases hg' with
   | mk _ _ _ _ _ q1 q2 q3 q4 q5 =>
    rw[txN,txN] at h
    simp only[List.append_assoc,List.cons_append] at h
    have h:=List.append_cancel_left h
    obtain ⟨e1,e2,e3,e4,e5⟩:=QM g1 q1 g2 q2 g3 q3 g4 q4 h
    obtain ⟨e6,e7⟩:=UE g5 q5 hr hr' (fun n hn n' a b gn' ra rb e=>ih n hn (d+1) n' a b (g5 n hn) gn' ra rb e) e5
    exact ⟨by rw[e1,e2,e3,e4,e6],e7⟩
theorem Qo {n n':Nd} (h:ZO n) (h':ZO n'):txN 0 n=txN 0 n'↔n=n':=by
 refine ⟨fun e=>(QR n 0 n' [] [] h h' (.inl rfl) (.inl rfl) (by simpa using e)).1,fun e=>by rw[e]⟩
theorem Yy (w:World) (l:Nat) (o:Obj):Ext (·=l) w (w.putObj l o) :=
 ⟨rfl,rfl,rfl,by simp[World.putObj],fun k hk hn=>World.putObj_heap_other (by omega)⟩
section
variable {K V:Type} [DecidableEq K] {ek:K→Value} {ev:V→Value} {w:World} {b:Nat} {l:List (K × V)}
theorem Ya {w:World} {b:Nat} {es:Array MapEntry} {clock:Nat} (h:w.heap[b]?=some (.map es clock)) (es':Array MapEntry) (clock':Nat) (a:Addr):(w.putObj b (.map es' clock')).cell? a=w.cell? a:=by
 have hlt:b<w.heap.size:=(Array.getElem?_eq_some_iff.1 h).1
 by_cases e:a.block=b
 ·subst e
  have h2:(w.putObj a.block (.map es' clock')).heap[a.block]?=some (.map es' clock'):=World.putObj_heap_same hlt
  simp only[World.cell?,h,h2]
 ·exact World.cell?_of_block (w:=w) (World.putObj_heap_other (by omega))
theorem Rv {l:List (K × V)} {k:K} (v:V) (h:Zv l k=none):Zv (l++[(k,v)]) k=some l.length:=by
 induction l with
 | nil=>simp[Zv]
 | cons p r ih =>
  obtain ⟨a,b⟩:=p
  simp only[Zv] at h
  split at h
  ·cases h
  ·rename_i hne
   have:=ih (by simpa using h)
   simp[Zv,hne,this]
theorem WM {l:List MapEntry} (hn:l.Pairwise (fun x y=>x.born<y.born)) {j:Nat} {e0:MapEntry} (h:l[j]?=some e0):l.findIdx? (fun e=>((e.born:Nat):Int) == ((e0.born:Nat):Int))=some j:=by
 induction l generalizing j with
 | nil=>simp at h
 | cons a r ih =>
  rw[List.pairwise_cons] at hn
  cases j with
  | zero =>
   simp only[List.getElem?_cons_zero,Option.some.injEq] at h
   subst h
   simp[List.findIdx?_cons]
  | succ j =>
   simp only[List.getElem?_cons_succ] at h
   have hne:a.born≠e0.born:=fun e1=>by
    have:=hn.1 e0 (List.mem_of_getElem? h)
    omega
   have hb:(((a.born:Nat):Int) == ((e0.born:Nat):Int))=false:=by
    simp only[beq_eq_false_iff_ne,ne_eq,Int.natCast_inj]
    exact hne
   rw[List.findIdx?_cons,hb]
   simp[ih hn.2 h]
theorem V8 (xs:Array MapEntry) (p:MapEntry→Bool):xs.findIdx? p=xs.toList.findIdx? p:=by
 cases xs
 simp
theorem Vf {α:Type} (f:α→α) (a:α):∀ l:List α,(l++[a]).modify l.length f=l++[f a]
 | []=>rfl
 | b :: r=>by simp[List.modify_succ_cons,Vf f a r]
theorem Tb {α:Type}:∀ (l:List α) (j:Nat) (a:α),l[j]?=some a→l.set j a=l
 | [],_,_,h=>by simp at h
 | b :: r,0,a,h=>by simp at h;simp[h]
 | b :: r,j+1,a,h=>by simp at h;simp[Tb r j a h]
theorem Z4.entry {P:Program} {mt kt et:TypeId} (h:Z4 ek ev w b l) (hk:XG (V:=V) P kt ek) (hm:P.underlying mt=some (.map kt et)) {z:Value} (hz:∀ w,(zeroValue et).run P w=.ok z w) (k:K) (v0:V) :
  ∃ (st:Nat) (es1:Array MapEntry) (c1:Nat),(∀ W,W.heap[b]?=w.heap[b]?→(Instr.mapEntry mt (.map (some b)) (ek k)).run P W=.ok (.tuple #[((Z3 l k).map ev).getD z,.int .i64 st]) (W.putObj b (.map es1 c1)))∧(∀ W,W.heap[b]?=w.heap[b]?→(Instr.lookup mt (.map (some b)) (ek k) false).run P W=.ok (((Z3 l k).map ev).getD z) W) ∧
   (∀ W,W.heap[b]?=some (.map es1 c1)→(Instr.lookup mt (.map (some b)) (ek k) false).run P W=.ok (((Z3 l k).map ev).getD z) W) ∧
   ∀ W v,W.heap[b]?=some (.map es1 c1)→∃ es2 c2,(Instr.entryStore mt (.map (some b)) (.int .i64 st) (ev v)).run P W=.ok () (W.putObj b (.map es2 c2))∧Z4 ek ev (W.putObj b (.map es2 c2)) b (Zw l k v):=by
 have hp:=fun v=>h.put k v
 have hlt:=h.lt
 obtain ⟨hn,es,clock,h1,h2,h3,h4,h5⟩:=id h
 have hf:=fun W=>hk.find k es.toList l W h2
 have hlook:=fun (W:World) (hW:W.heap[b]?=w.heap[b]?)=>(h.of_block (w':=W) hW).lookup hk hm hz k
 have hpw:∀ v,(es.push { key:=ek k,val:=v,born:=clock }).toList.Pairwise (fun x y=>x.born<y.born):=fun v=>by
  rw[Array.toList_push,List.pairwise_append]
  exact ⟨h4,List.pairwise_singleton _ _,fun x hx y hy=>by rw[List.mem_singleton.1 hy];exact h5 x hx⟩
 cases hi:Zv l k with
 | none =>
  have h0:=WL hi
  simp only[hi,Option.map_none] at hf
  have hsz:es.size=l.length:=by
   have:=congrArg List.length h2
   simpa using this
  refine ⟨clock,es.push { key:=ek k,val:=z,born:=clock },clock+1,fun W hW0=>?_,hlook,fun W hW=>?_,fun W v hW=>⟨es.push { key:=ek k,val:=ev v,born:=clock },clock+1,?_,?_⟩⟩
  ·have h1':=hW0.trans h1
   simp[Instr.mapEntry,run_underlying hm,Zs h1',hk.check,hf W,hz,h0,Result.andThen,MapKept.run_setObj_map _ h1',goInt]
   rfl
  ·have hf2:=hk.find k (es.push { key:=ek k,val:=z,born:=clock }).toList (l++[(k,v0)]) W (by simp[h2])
   rw[Rv v0 hi,Option.map_some,←hsz] at hf2
   simp only[Array.getElem?_toList] at hf2
   rw[show (es.push ({ key:=ek k,val:=z,born:=clock }:MapEntry))[es.size]?=some { key:=ek k,val:=z,born:=clock } from by simp] at hf2
   rw[Array.toList_push] at hf2
   simp[Instr.lookup,run_underlying hm,Zs hW,hk.check,hf2,h0,Result.andThen]
  ·have hidx:(es.push ⟨ek k,z,clock⟩).findIdx? (fun e=>((e.born:Nat):Int) == ((clock:Nat):Int))=some es.size:=by
    rw[V8]
    exact WM (hpw z) (j:=es.size) (e0:=⟨ek k,z,clock⟩) (by simp)
   have hmod:(es.push ⟨ek k,z,clock⟩).modify es.size (fun e=>{ e with val:=ev v })=es.push ⟨ek k,ev v,clock⟩:=by
    apply Array.ext'
    rw[Array.toList_modify,Array.toList_push,Array.toList_push,←Array.length_toList,Vf]
   simp[Instr.entryStore,MapKept.run_getObj_map hW,asInt,asIntOf,hidx,hmod,MapKept.run_setObj_map _ hW,Result.andThen]
   rfl
  ·have:=hp v
   rw[hi] at this
   refine this.of_block ((World.putObj_heap_same (Array.getElem?_eq_some_iff.1 hW).1).trans ?_)
   simp only[Zo,h1]
   rw[Array.getElem?_setIfInBounds_self_of_lt hlt]
 | some i =>
  obtain ⟨u,e1,e2⟩:=Xu hi
  obtain ⟨e0,he0⟩:∃ e,es.toList[i]?=some e:=by
   have:=congrArg (fun l:List Value=>l[i]?) h2
   simp only[List.getElem?_map,e1] at this
   cases hx:es.toList[i]? with
   | none=>rw[hx] at this;cases this
   | some e=>exact ⟨e,rfl⟩
  have hkey:e0.key=ek k:=by
   have:=congrArg (fun l:List Value=>l[i]?) h2
   simpa [e1,he0] using this
  have hval:e0.val=ev u:=by
   have:=congrArg (fun l:List Value=>l[i]?) h3
   simpa [e1,he0] using this
  have hj:es[i]?=some e0:=by simpa using he0
  have hsame:es.modify i (fun e=>{ e with key:=ek k })=es:=by
   apply Array.ext'
   rw[Array.toList_modify,ChangeMaps.modify_eq_set _ _ _ _ he0]
   have:({ e0 with key:=ek k }:MapEntry)=e0:=by rw[←hkey]
   rw[this]
   exact Tb _ _ _ he0
  simp only[hi,Option.map_some,Array.getElem?_toList,hj,Option.getD_some] at hf
  refine ⟨e0.born,es,clock,fun W hW0=>?_,hlook,fun W hW=>?_,fun W v hW=>⟨es.modify i (fun e'=>{ e' with key:=ek k,val:=ev v }),clock,?_,?_⟩⟩
  ·have h1':=hW0.trans h1
   simp[Instr.mapEntry,run_underlying hm,Zs h1',hk.check,hf W,hj,hkey,hk.stays,hsame,e2,hval,Result.andThen,MapKept.run_setObj_map _ h1',goInt]
   rfl
  ·have hf2:=hk.find k es.toList l W h2
   rw[hi,Option.map_some] at hf2
   simp only[Array.getElem?_toList,hj,Option.map_some,Option.getD_some] at hf2
   simp[Instr.lookup,run_underlying hm,Zs hW,hk.check,hf2,e2,hval,Result.andThen]
  ·have hidx:es.findIdx? (fun e=>((e.born:Nat):Int) == ((e0.born:Nat):Int))=some i:=by
    rw[V8]
    exact WM h4 he0
   have hmod:es.modify i (fun e=>{ e with val:=ev v })=es.modify i (fun e'=>{ e' with key:=ek k,val:=ev v }):=by
    apply Array.ext'
    rw[Array.toList_modify,Array.toList_modify,ChangeMaps.modify_eq_set _ _ _ _ he0,ChangeMaps.modify_eq_set _ _ _ _ he0,←hkey]
   simp[Instr.entryStore,MapKept.run_getObj_map hW,asInt,asIntOf,hidx,hmod,MapKept.run_setObj_map _ hW,Result.andThen]
   rfl
  ·have:=hp v
   rw[hi] at this
   refine this.of_block ((World.putObj_heap_same (Array.getElem?_eq_some_iff.1 hW).1).trans ?_)
   simp only[Zo,h1]
   rw[Array.getElem?_setIfInBounds_self_of_lt hlt]
theorem Sv (w:World) {b:Nat} (hb:b<w.heap.size) (o x:Obj):(w.putObj b o).alloc x=(w.alloc x).putObj b o:=by
 have e:(w.heap.setIfInBounds b o).push x=(w.heap.push x).setIfInBounds b o:=by
  apply Array.ext_getElem?
  intro i
  simp only[Array.getElem?_push,Array.getElem?_setIfInBounds,Array.size_setIfInBounds,Array.size_push]
  by_cases h1:i=w.heap.size
  ·subst h1
   rw[if_pos rfl,if_neg (by omega),if_pos rfl]
  ·by_cases h2:b=i
   ·subst h2
    rw[if_neg h1,if_pos rfl,if_pos hb,if_pos rfl,if_pos (by omega)]
   ·rw[if_neg h1,if_neg h2,if_neg h2,if_neg h1]
 show ({ w with heap:=(w.heap.setIfInBounds b o).push x }:World)={ w with heap:=(w.heap.push x).setIfInBounds b o }
 rw[e]
end
section
variable (ka kb:ByteArray)
end
theorem Xf {h:Zz}:∀ (m n:Nat) (u:St),Ym h m u→Ym h n u→m=n
 | 0,0,_,_,_=>rfl
 | 0,n+1,u,h1,⟨c,hc,_⟩=>by rw[show h u=none from h1] at hc;cases hc
 | m+1,0,u,⟨c,hc,_⟩,h2=>by rw[show h u=none from h2] at hc;cases hc
 | m+1,n+1,u,⟨c,hc,h1⟩,⟨d,hd,h2⟩=>by
  rw[hc] at hd;cases hd
  rw[Xf m n _ h1 h2]
theorem UL {h:Zz} (hk:Xb h):∀ (m:Nat) (u:St),Ym h m u→∃ l:List Ch,l.length=m∧l.Nodup∧∀ c∈l,h c.block=some c∧∃ j,j≤m∧Ym h j c.block
 | 0,u,_=>⟨[],rfl,List.nodup_nil,fun c hc=>by simp at hc⟩
 | m+1,u,⟨c,hc,he⟩=>by
  obtain ⟨l,h1,h2,h3⟩:=UL hk m c.under he
  have hb:c.block=u:=hk u c hc
  refine ⟨c :: l,by simp[h1],List.nodup_cons.2 ⟨fun hcl=>?_,h2⟩,fun d hd=>?_⟩
  ·obtain ⟨_,j,hj,hej⟩:=h3 c hcl
   have hu:Ym h (m+1) c.block:=by rw[hb];exact ⟨c,hc,he⟩
   have:=Xf _ _ _ hej hu
   omega
  ·rcases List.mem_cons.1 hd with rfl|hd
   ·exact ⟨by rw[hb];exact hc,m+1,Nat.le_refl _,by rw[hb];exact ⟨d,hc,he⟩⟩
   ·obtain ⟨a1,j,a2,a3⟩:=h3 d hd
    exact ⟨a1,j,by omega,a3⟩
theorem QI {h:Zz} {A:List Ch} (hk:Xb h) (ha:U1 h) (hA:Yf h A) (u:St):∃ m,Ym h m u∧m≤A.length:=by
 obtain ⟨m,hm⟩:=ha u
 obtain ⟨l,h1,h2,h3⟩:=UL hk m u hm
 refine ⟨m,hm,?_⟩
 rw[←h1]
 exact h2.length_le_of_subset fun c hc=>(hA.1 c).2 (h3 c hc).1
theorem RW {h:Zz} {m:Nat} {b:St} {y:Ch} (he:Ym h m b) (hy:h b=some y):∃ k,m=k+1∧Ym h k y.under:=by
 cases m with
 | zero=>rw[show h b=none from he] at hy;cases hy
 | succ k=>obtain ⟨c,hc,h2⟩:=he;rw[hc] at hy;cases hy;exact ⟨k,rfl,h2⟩
theorem Z6.dcells {w:World} {v:Value} {l:List Ch} (h:Z6 Ch.cells 5 w v l) (hne:l≠[]):∃ b o cap,v=.slice (some ⟨b,o,none⟩) l.length cap∧∀ i (x:Ch),l[i]?=some x →
  w.cell? ⟨b,o+i*5,none⟩=some (.int .i64 x.block.n)∧w.cell? ⟨b,o+i*5+1,none⟩=some (.int .i64 x.block.r)∧w.cell? ⟨b,o+i*5+2,none⟩=some (.int .i64 x.under.n)∧w.cell? ⟨b,o+i*5+3,none⟩=some (.int .i64 x.under.r)∧w.cell? ⟨b,o+i*5+4,none⟩=some (.string x.key):=by
 obtain ⟨a,cap,rfl,_,_,h4⟩:=h
 obtain ⟨b,o,rfl,h6⟩:=h4 hne
 exact ⟨b,o,cap,rfl,fun i x hi=>⟨h6 i x hi 0 _ rfl,h6 i x hi 1 _ rfl,h6 i x hi 2 _ rfl,h6 i x hi 3 _ rfl,h6 i x hi 4 _ rfl⟩⟩
section
variable {α:Type} {R:α→α→Prop}
end
def Wo (l:List El) (A:List Ch) (b:St):Prop:=b≠⟨0,0⟩∧(Xr l b=true∨∃ d∈A,d.under=b)
def ZS (b:St):Ch:=⟨b,⟨0,0⟩,⟨#[]⟩⟩
open Classical in
noncomputable def Yd (l:List El) (h:Zz) (A:List Ch):Zz:=fun b=>match h b with
 | some c=>some c
 | none=>if Wo l A b then some (ZS b) else none
theorem XI {l:List El} {h:Zz} {A:List Ch} {b:St} {c:Ch} (e:h b=some c):Yd l h A b=some c:=by
 unfold Yd;rw[e]
theorem Xv {l:List El} {h:Zz} {A:List Ch} {b:St} (e:h b=none) (k:Wo l A b):Yd l h A b=some (ZS b):=by
 unfold Yd;rw[e];exact if_pos k
theorem Xi {l:List El} {h:Zz} {A:List Ch} {b:St} (e:h b=none) (k:¬ Wo l A b):Yd l h A b=none:=by
 unfold Yd;rw[e];exact if_neg k
theorem YD {l:List El} {h:Zz} {A:List Ch} (e:h ⟨0,0⟩=none):Yd l h A ⟨0,0⟩=none:=Xi e (fun k=>k.1 rfl)
theorem XB {l:List El} {h:Zz} {A:List Ch} (hk:Xb h):Xb (Yd l h A):=by
 intro b c hc
 cases e:h b with
 | some d=>rw[XI e] at hc;cases hc;exact hk b _ e
 | none =>
  by_cases k:Wo l A b
  ·rw[Xv e k] at hc;cases hc;rfl
  ·rw[Xi e k] at hc;cases hc
theorem Wd {l:List El} {h:Zz} {A:List Ch} (ha:U1 h) (h0:h ⟨0,0⟩=none):U1 (Yd l h A):=by
 have key:∀ n u,Ym h n u→∃ m,Ym (Yd l h A) m u:=fun n=>by
  induction n with
  | zero =>
   intro u hu
   by_cases k:Wo l A u
   ·exact ⟨1,ZS u,Xv hu k,YD h0⟩
   ·exact ⟨0,Xi hu k⟩
  | succ n ih =>
   rintro u ⟨c,hc,he⟩
   obtain ⟨m,hm⟩:=ih _ he
   exact ⟨m+1,c,XI hc,hm⟩
 intro u
 obtain ⟨n,hn⟩:=ha u
 exact key n u hn
noncomputable def Yc (H:Zz) (u:St):List Ch:=@dite _ (∃ l,XR H u l) (Classical.propDecidable _) (fun h=>Classical.choose h) (fun _=>[])
theorem Tq {H:Zz} {u:St} {l:List Ch} (h:XR H u l):Yc H u=l:=by
 have h1:∃ l,XR H u l:=⟨l,h⟩
 unfold Yc
 rw[dif_pos h1]
 exact (Classical.choose_spec h1).unique h
theorem Xh {H:Zz} {u:St} {c:Ch} (h:c∈Yc H u):H c.block=some c∧c.under=u:=by
 unfold Yc at h
 split at h
 ·rename_i h1;exact ((Classical.choose_spec h1).1 c).1 h
 ·simp at h
theorem TX (H:Zz) (u:St):(Yc H u).Pairwise (fun a b=>a≠b):=by
 unfold Yc
 split
 ·rename_i h1
  exact (Classical.choose_spec h1).2.imp (fun {a b} h e=>by rw[e] at h;exact XP _ h)
 ·exact List.Pairwise.nil
def ZH:ByteArray:=⟨#[112,97,114,97]⟩
def VP:ByteArray:=⟨#[107,105,110,100]⟩
def Yp (p:ByteArray × List Atr) (a:Atr):ByteArray × List Atr :=
 if a.value=⟨#[]⟩ then p else if a.name=VP then (a.value,p.2) else (p.1,p.2++[a])
def X4 (l:List Atr):ByteArray × List Atr:=l.foldl Yp (ZH,[])
structure Vw where
 live:St→Bool
 regs:St→List Atr
 txt:St→Pcs
 H:Zz
def Vw.nd (V:Vw) (s:St) (ks:List Nd):Nd:=.mk s (X4 (V.regs s)).1 (X4 (V.regs s)).2 (V.txt s) ks
noncomputable def Vw.row (V:Vw):Nat→St→List Nd
 | 0,_=>[]
 | n+1,b=>(Yc V.H b).flatMap fun c=>if V.live c.block=true then [V.nd c.block (V.row n c.block)] else V.row n c.block
noncomputable def Vw.one (V:Vw) (n:Nat) (s:St):List Nd:=if V.live s=true then [V.nd s (V.row n s)] else V.row n s
theorem Vw.row_succ (V:Vw) (n:Nat) (b:St):V.row (n+1) b=(Yc V.H b).flatMap fun c=>V.one n c.block:=rfl
noncomputable def Vw.ids (V:Vw):Nat→St→List St
 | 0,_=>[]
 | n+1,b=>(Yc V.H b).flatMap fun c=>(if V.live c.block=true then [c.block] else [])++V.ids n c.block
theorem Vw.row_len (V:Vw):∀ n b,(V.row n b).length≤(V.ids n b).length
 | 0,b=>by simp[Vw.row]
 | n+1,b=>by
  rw[Vw.row,Vw.ids]
  generalize Yc V.H b=K
  induction K with
  | nil=>simp
  | cons c K ih =>
   rw[List.flatMap_cons,List.flatMap_cons,List.length_append,List.length_append,List.length_append]
   have:=V.row_len n c.block
   by_cases hl:V.live c.block=true
   ·rw[if_pos hl,if_pos hl]
    simp only[List.length_singleton]
    omega
   ·rw[if_neg hl,if_neg hl]
    simp only[List.length_nil]
    omega
theorem Uj {h:Zz} {s x:St} (hu:Up h s x):∀ k,Ym h k s→∃ j,j≤k∧Ym h j x∧(j=k→x=s):=by
 induction hu with
 | refl u=>exact fun k hk=>⟨k,Nat.le_refl _,hk,fun _=>rfl⟩
 | step hc _ ih =>
  intro k hk
  obtain ⟨k',rfl,hk'⟩:=RW hk hc
  obtain ⟨j,h1,h2,_⟩:=ih k' hk'
  exact ⟨j,by omega,h2,fun e=>absurd e (by omega)⟩
theorem QD {h:Zz} {s x y:St} (hx:Up h s x):∀ {r},Up h s y→Ym h r x→Ym h r y→x=y:=by
 induction hx with
 | refl u =>
  intro r hy e1 e2
  obtain ⟨j,h1,h2,h3⟩:=Uj hy r e1
  exact (h3 (Xf _ _ _ h2 e2)).symm
 | step hc hx ih =>
  rename_i u b c
  intro r hy e1 e2
  cases hy with
  | refl =>
   obtain ⟨j,h1,h2,h3⟩:=Uj (Up.step hc hx) r e2
   exact h3 (Xf _ _ _ h2 e1)
  | step hc' hy =>
   rw[hc] at hc';cases hc'
   exact ih hy e1 e2
theorem Tj {h:Zz} {a b c:St} (h1:Up h a b) (h2:Up h b c):Up h a c:=by
 induction h1 with
 | refl=>exact h2
 | step hc _ ih=>exact .step hc (ih h2)
theorem Vw.ids_sub {V:Vw}:∀ {n b s},s∈V.ids n b→∃ c,V.H c.block=some c∧c.under=b∧Up V.H s c.block
 | 0,b,s,h=>by simp[Vw.ids] at h
 | n+1,b,s,h=>by
  rw[Vw.ids,List.mem_flatMap] at h
  obtain ⟨c,hc,hs⟩:=h
  obtain ⟨h1,h2⟩:=Xh hc
  refine ⟨c,h1,h2,?_⟩
  rw[List.mem_append] at hs
  rcases hs with hs|hs
  ·split at hs
   ·rw[List.mem_singleton.1 hs];exact .refl _
   ·simp at hs
  ·obtain ⟨d,d1,d2,d3⟩:=ids_sub hs
   exact Tj d3 (.step d1 (by rw[d2];exact .refl _))
theorem Vw.ids_live {V:Vw}:∀ {n b s},s∈V.ids n b→V.live s=true∧∃ c,V.H s=some c∧c.block=s
 | 0,b,s,h=>by simp[Vw.ids] at h
 | n+1,b,s,h=>by
  rw[Vw.ids,List.mem_flatMap] at h
  obtain ⟨c,hc,hs⟩:=h
  obtain ⟨h1,h2⟩:=Xh hc
  rw[List.mem_append] at hs
  rcases hs with hs|hs
  ·split at hs
   ·rename_i hl;rw[List.mem_singleton.1 hs];exact ⟨hl,c,h1,rfl⟩
   ·simp at hs
  ·exact ids_live hs
theorem Vw.ids_nodup {V:Vw}:∀ {n b m},Ym V.H m b→(V.ids n b).Nodup
 | 0,b,m,h=>by simp[Vw.ids]
 | n+1,b,m,h=>by
  rw[Vw.ids]
  show List.Pairwise _ _
  rw[List.pairwise_flatMap]
  have he:∀ c∈Yc V.H b,Ym V.H (m+1) c.block:=fun c hc=>by
   obtain ⟨h1,h2⟩:=Xh hc
   exact ⟨c,h1,by rw[h2];exact h⟩
  have hup:∀ c∈Yc V.H b,∀ s∈(if V.live c.block=true then [c.block] else [])++V.ids n c.block,Up V.H s c.block:=fun c hc s hs=>by
   rw[List.mem_append] at hs
   rcases hs with hs|hs
   ·split at hs
    ·rw[List.mem_singleton.1 hs];exact .refl _
    ·simp at hs
   ·obtain ⟨d,d1,d2,d3⟩:=ids_sub hs
    exact Tj d3 (.step d1 (by rw[d2];exact .refl _))
  refine ⟨fun c hc=>?_,?_⟩
  ·rw[List.pairwise_append]
   refine ⟨by split <;> simp,ids_nodup (he c hc),fun s hs t ht=>?_⟩
   split at hs
   ·rw[List.mem_singleton.1 hs]
    intro e
    obtain ⟨d,d1,d2,d3⟩:=ids_sub ht
    have e2:Ym V.H (m+2) d.block:=⟨d,d1,by rw[d2];exact he c hc⟩
    rw[←e] at d3
    obtain ⟨j,j1,j2,_⟩:=Uj d3 _ (he c hc)
    have:=Xf _ _ _ j2 e2
    omega
   ·simp at hs
  ·refine (List.pairwise_iff_forall_sublist.2 fun {c d} hs=>?_)
   have hcd:=(List.pairwise_iff_forall_sublist.1 (TX V.H b)) hs
   have hc:c∈Yc V.H b:=hs.subset (by simp)
   have hd:d∈Yc V.H b:=hs.subset (by simp)
   intro x hx y hy e
   have h1:=hup c hc x hx
   have h2:=hup d hd y hy
   rw[←e] at h2
   have hb:=QD h1 h2 (he c hc) (he d hd)
   have k1:=(Xh hc).1
   have k2:=(Xh hd).1
   rw[hb,k2] at k1
   cases k1
   exact hcd rfl
theorem Vw.ids_len {V:Vw} {A:List Ch} (hA:Yf V.H A) {n:Nat} {b:St} {m:Nat} (h:Ym V.H m b):(V.ids n b).length≤A.length:=by
 have:=(Vw.ids_nodup (n:=n) h).length_le_of_subset (l₂:=A.map Ch.block) (fun s hs=>by
  obtain ⟨_,c,h1,h2⟩:=Vw.ids_live hs
  exact List.mem_map.2 ⟨c,(hA.1 c).2 (by rw[h2];exact h1),h2⟩)
 rwa [List.length_map] at this
theorem Vw.row_le {V:Vw} {A:List Ch} (hA:Yf V.H A) {n:Nat} {b:St} {m:Nat} (h:Ym V.H m b):(V.row n b).length≤A.length:=Nat.le_trans (V.row_len n b) (Vw.ids_len hA h)
noncomputable def Vw.tree (V:Vw) (first:Pcs) (n:Nat):Nd:=.mk ⟨0,0⟩ ⟨#[100,111,99]⟩ [] [] ((if first=[] then [] else [.mk ⟨0,0⟩ ZH [] first []])++V.row n ⟨0,0⟩)
end Go.Proofs.YtlgipkemoldckaaGreatDoor
namespace Go.Proofs.YtlgipkemoldckaaGreatDoor
open Go.RowKit Go.Sort Go.Shelf
def orI (a b:Int):Int:=if a=0 then b else a
theorem Rz (b:Nat) (x y:Int) (w:World) (h0:w.cell? ⟨b,0,none⟩=some (.int .i64 x)) (h1:w.cell? ⟨b,1,none⟩=some (.int .i64 y)) :
  Calls Tryz.prog 67 #[.slice (some ⟨b,0,none⟩) 2 2] w fun e w'=>e=.returned (.int .i64 (orI x y))∧w=w':=by
 by_cases hx:x=0
 ·subst hx
  by_cases hy:y=0
  ·subst hy
   go_enter Tryz.func67,Tryz.ntmps67
   go_wp2_with fail
   go_loopg [8] 2 (fun g i wx=>∃ k:Nat,g=2 - k∧k≤2∧i=.int .i64 k∧wx=w)
   case atStart=>exact ⟨0,rfl,Nat.zero_le _,rfl,rfl⟩
   case round =>
    obtain ⟨k,hg,hk,rfl,rfl⟩:=hrel
    rcases (by omega:k=0∨k=1∨k=2) with rfl|rfl|rfl
    ·go_wp2_with fail
     go_roundg 1
     case measure=>omega
     case rel=>exact ⟨1,rfl,by omega,rfl,rfl⟩
    ·go_wp2_with fail
     go_roundg 0
     case measure=>omega
     case rel=>exact ⟨2,rfl,by omega,rfl,rfl⟩
    ·go_wp2_with fail
     go_ret
     exact ⟨rfl,rfl⟩
  ·go_enter Tryz.func67,Tryz.ntmps67
   go_wp2_with fail
   go_loopg [8] 2 (fun g i wx=>∃ k:Nat,g=2 - k∧k≤1∧i=.int .i64 k∧wx=w)
   case atStart=>exact ⟨0,rfl,Nat.zero_le _,rfl,rfl⟩
   case round =>
    obtain ⟨k,hg,hk,rfl,rfl⟩:=hrel
    rcases (by omega:k=0∨k=1) with rfl|rfl
    ·go_wp2_with fail
     go_roundg 1
     case measure=>omega
     case rel=>exact ⟨1,rfl,by omega,rfl,rfl⟩
    ·go_wp2_with fail
     go_ret
     exact ⟨rfl,rfl⟩
 ·have ho:orI x y=x:=by simp[orI,hx]
  rw[ho]
  go_enter Tryz.func67,Tryz.ntmps67
  go_wp2_with fail
  go_loopg [8] 2 (fun g i wx=>g=2∧i=.int .i64 0∧wx=w)
  case atStart=>exact ⟨rfl,rfl,rfl⟩
  case round =>
   obtain ⟨hg,rfl,rfl⟩:=hrel
   go_wp2_with fail
   go_ret
   exact ⟨rfl,rfl⟩
def Vq (x y:Ch):Int:=orI (Yw x.key y.key) (XQ x.block y.block)
theorem Xe (x y:Ch):Vq x y<0↔Yt x y:=by
 have hs:=Sb x.block y.block
 have hb:=ltB x.key y.key
 unfold Vq orI Yt YA
 by_cases h1:x.key.toList<y.key.toList
 ·have h2:Yw x.key y.key<0:=by simpa [h1] using hb
  rw[if_neg (by omega)]
  exact ⟨fun _=>.inl h1,fun _=>h2⟩
 ·have h2:¬ Yw x.key y.key<0:=by simpa [h1] using hb
  by_cases h3:x.key.toList=y.key.toList
  ·have h4:Yw x.key y.key=0:=by
    unfold Yw
    rw[bytesLess_eq]
    simp[h3,List.lt_irrefl]
   rw[if_pos h4,hs]
   exact ⟨fun h=>.inr ⟨h3,h⟩,fun h=>h.elim (fun e=>absurd e h1) (fun e=>e.2)⟩
  ·have h4:Yw x.key y.key=1:=by
    unfold Yw
    rw[bytesLess_eq]
    simp[h1,h3]
   rw[if_neg (by omega),h4]
   exact ⟨fun h=>by omega,fun h=>h.elim (fun e=>absurd e h1) (fun e=>absurd e.1 h3)⟩
theorem QQ:SWO (ltOf fun x y:Ch=>Vq x y) where
 irrefl x:=by simp only[ltOf,decide_eq_false_iff_not];exact fun h=>XP _ ((Xe _ _).1 h)
 trans x y z h1 h2:=by simp only[ltOf,decide_eq_true_eq] at *;exact (Xe _ _).2 (Vd ((Xe _ _).1 h1) ((Xe _ _).1 h2))
 ntrans x y z h1 h2:=by
  simp only[ltOf,decide_eq_false_iff_not] at *
  intro h
  have h3:=(Xe _ _).1 h
  have n1:¬ Yt x y:=fun e=>h1 ((Xe _ _).2 e)
  have n2:¬ Yt y z:=fun e=>h2 ((Xe _ _).2 e)
  rcases h3 with h3|⟨h3,h4⟩
  ·by_cases k1:YA x<YA y
   ·exact n1 (.inl k1)
   ·by_cases k2:YA y<YA z
    ·exact n2 (.inl k2)
    ·exact (List.le_trans k2 k1) h3
  ·by_cases k1:YA x<YA y
   ·exact n1 (.inl k1)
   ·by_cases k2:YA y<YA z
    ·exact n2 (.inl k2)
    ·have e1:YA y=YA x:=List.le_antisymm k1 (by rw[h3];exact k2)
     rcases YV x.block y.block with t|t|t
     ·exact n1 (.inr ⟨e1.symm,t⟩)
     ·rw[t] at h4;exact n2 (.inr ⟨e1.trans h3,h4⟩)
     ·exact n2 (.inr ⟨e1.trans h3,Ys t h4⟩)
theorem Ug (a b c d:Int) (w:World) :
  Calls Tryz.prog 42 #[.agg #[.int .i64 a,.int .i64 b],.agg #[.int .i64 c,.int .i64 d]] w
   fun e w'=>e=.returned (.int .i64 (XQ ⟨a,b⟩ ⟨c,d⟩))∧∃ os',w'=grow w os':=by
 by_cases h1:(Xx a c != 0)=true
 ·go_enter Tryz.func42,Tryz.ntmps42
  go_wp2_with (go_at_call 59;refine (XH _ _ _).mono ?_;rintro e w' ⟨rfl,rfl⟩)
  go_ret
  exact ⟨by simp[XQ,h1],_,by rw[alloc_eq_grow,alloc_eq_grow,grow_grow]⟩
 ·have h1:(Xx a c != 0)=false:=by simpa using h1
  go_enter Tryz.func42,Tryz.ntmps42
  go_wp2_with (go_at_call 59;refine (XH _ _ _).mono ?_;rintro e w' ⟨rfl,rfl⟩)
  go_ret
  exact ⟨by simp[XQ,h1],_,by rw[alloc_eq_grow,alloc_eq_grow,grow_grow]⟩
theorem SD (x y:Ch) (w:World) :
  Calls Tryz.prog 66 #[.agg x.cells.toArray,.agg y.cells.toArray] w fun e w'=>e=.returned (.int .i64 (Vq x y))∧∃ q os',w'=grow (w.drewN q) os':=by
 obtain ⟨⟨xn,xr⟩,⟨xu,xv⟩,xk⟩:=x
 obtain ⟨⟨yn,yr⟩,⟨yu,yv⟩,yk⟩:=y
 unfold Ch.cells Vq
 obtain ⟨W1,hW1⟩:=Je ((w.alloc (.cells #[.int .i64 xn,.int .i64 xr,.int .i64 xu,.int .i64 xv,.string xk] 53)).alloc (.cells #[.int .i64 yn,.int .i64 yr,.int .i64 yu,.int .i64 yv,.string yk] 53))
 have hg:∃ os,W1=grow w os:=by rw[←hW1,alloc_eq_grow,alloc_eq_grow,grow_grow];exact ⟨_,rfl⟩
 have x0:W1.cell? ⟨w.heap.size,0,none⟩=some (.int .i64 xn):=by subst hW1;go_simp
 have x1:W1.cell? ⟨w.heap.size,1,none⟩=some (.int .i64 xr):=by subst hW1;go_simp
 have x4:W1.cell? ⟨w.heap.size,4,none⟩=some (.string xk):=by subst hW1;go_simp
 have y0:W1.cell? ⟨w.heap.size+1,0,none⟩=some (.int .i64 yn):=by subst hW1;go_simp
 have y1:W1.cell? ⟨w.heap.size+1,1,none⟩=some (.int .i64 yr):=by subst hW1;go_simp
 have y4:W1.cell? ⟨w.heap.size+1,4,none⟩=some (.string yk):=by subst hW1;go_simp
 have HG:=Lib.hid hg
 subst hW1
 go_enter Tryz.func66,Tryz.ntmps66
 go_upto_region 1 with fail
 generalize (w.alloc (.cells #[.int .i64 xn,.int .i64 xr,.int .i64 xu,.int .i64 xv,.string xk] 53)).alloc (.cells #[.int .i64 yn,.int .i64 yr,.int .i64 yu,.int .i64 yv,.string yk] 53)=W1 at *
 have hkeep:∀ (W:World) os b o u,W.cell? ⟨b,o,none⟩=some u→(grow W os).cell? ⟨b,o,none⟩=some u:=fun W os b o u h=>by
  exact (cell?_grow W os ⟨b,o,none⟩ (Zy h)).trans h
 have HK:=Lib.hid hkeep
 clear hkeep hg
 go_region_held3 (fun W=>W.cell? ⟨w.heap.size,0,none⟩=some (.int .i64 xn)∧W.cell? ⟨w.heap.size,1,none⟩=some (.int .i64 xr)∧W.cell? ⟨w.heap.size,4,none⟩=some (.string xk)∧W.cell? ⟨w.heap.size+1,0,none⟩=some (.int .i64 yn)∧W.cell? ⟨w.heap.size+1,1,none⟩=some (.int .i64 yr)∧W.cell? ⟨w.heap.size+1,4,none⟩=some (.string yk)) (refine ⟨?_,?_,?_,?_,?_,?_⟩ <;> first|assumption|(refine HK.out _ _ _ _ _ ?_;assumption)|(refine Z2 (HK.out _ _ _ _ _ ?_) _;assumption)) (first
  | (go_at_call 62;((with_reducible refine (Vz _ _ _).mono ?_);rintro e w2 ⟨rfl,rfl⟩))
  | (go_at_call 42;((with_reducible refine (Ug _ _ _ _ _).mono ?_);rintro e w2 ⟨rfl,os2,rfl⟩))
  | (go_at_call 67;((with_reducible refine (Rz _ (Yw xk yk) (XQ ⟨xn,xr⟩ ⟨yn,yr⟩) _ (by go_simp) (by go_simp)).mono ?_);rintro e w4 ⟨rfl,rfl⟩)))
 all_goals
  go_wp2_with fail
  go_ret
  obtain ⟨os,hos⟩:=HG.out
  refine ⟨rfl,1,?_⟩
  rw[hos,alloc_eq_grow]
  exact ⟨_,by first|rfl|(rw[grow_grow];rfl)|(simp only[grow_grow];rfl)|(unfold grow World.drew World.drewN;simp;rfl)⟩
theorem TZ {base:Nat} {w:World} {v:Value} {l:List Ch} (h:Own Ch.cells 5 53 base w v l) (hl:l.length<4611686018427387904) :
  Calls Tryz.prog 65 #[v,.func (.func 66) #[] #[]] w fun e w'=>e=.returned (.tuple #[])∧∃ l',l'.Perm l∧l'.Pairwise (fun a b=>ltOf (fun x y:Ch=>Vq x y) b a=false)∧Own Ch.cells 5 53 base w' v l'∧Ext (fun b=>v.ownBlock=some b) w w':=by
 have eg:∀ args w,(callFunc 66 args).run Tryz.prog w=.ok (.enter 66 args) w:=enters_of Tryz.func66 (by kernel_rfl) rfl
 refine Tn (fun _=>rfl) (by omega) (fun blk cap d w hH hb hs=>?_) (fun p cap w=>?_) h hl
 ·exact AnyQ.slices_SortFunc Tryz.sortChild 5 Tryz.isAgg53 Tryz.sizeOf53 Ch.cells (fun _=>rfl) (fun x v hv=>by simp[Ch.cells] at hv;rcases hv with rfl|rfl|rfl|rfl|rfl <;> rfl) (fun x y=>Vq x y) QQ 66 #[] blk 0 cap d w eg (fun _ _ _ _ x y=>SD x y _) hH hb hs
 ·exact AnyF.slices_SortFunc_none Tryz.sortChild p cap _ w
end Go.Proofs.YtlgipkemoldckaaGreatDoor
namespace Go.Proofs.YtlgipkemoldckaaGreatDoor
open Go.RowKit
def Xl (C:List Ch) (s:St):List Ch:=if s=⟨0,0⟩∨∃ c∈C,c.block=s then C else C++[ZS s]
structure Gth (A:List Ch) (S:St→Prop) (C:List Ch):Prop where
 old:∀ c∈A,c∈C
 new:∀ c∈C,c∈A∨(c=ZS c.block∧c.block≠⟨0,0⟩∧(∀ d∈A,d.block≠c.block)∧S c.block)
 nodup:C.Pairwise (fun a b=>a.block≠b.block)
 all:∀ s,S s→s≠⟨0,0⟩→∃ c∈C,c.block=s
theorem Gth.start {A:List Ch} (h:A.Pairwise (fun a b=>a.block≠b.block)):Gth A (fun _=>False) A :=
 ⟨fun _ h=>h,fun _ h=>.inl h,h,fun _ h=>h.elim⟩
theorem Gth.mono {A:List Ch} {S T:St→Prop} {C:List Ch} (h:Gth A S C) (hs:∀ s,S s↔T s):Gth A T C:=by
 have:S=T:=funext fun s=>propext (hs s)
 rw[←this];exact h
theorem Gth.more {A:List Ch} {S:St→Prop} {C:List Ch} (h:Gth A S C) (s:St):Gth A (fun t=>S t∨t=s) (Xl C s):=by
 unfold Xl
 split
 ·rename_i hc
  refine ⟨h.old,fun c hc'=>?_,h.nodup,fun t ht hn=>?_⟩
  ·rcases h.new c hc' with k|⟨k1,k2,k3,k4⟩
   ·exact .inl k
   ·exact .inr ⟨k1,k2,k3,.inl k4⟩
  ·rcases ht with ht|rfl
   ·exact h.all t ht hn
   ·rcases hc with hc|hc
    ·exact absurd hc hn
    ·exact hc
 ·rename_i hc
  have h1:s≠⟨0,0⟩:=fun e=>hc (.inl e)
  have h2:∀ c∈C,c.block≠s:=fun c hc' e=>hc (.inr ⟨c,hc',e⟩)
  refine ⟨fun c hc'=>List.mem_append_left _ (h.old c hc'),fun c hc'=>?_,?_,fun t ht hn=>?_⟩
  ·rw[List.mem_append,List.mem_singleton] at hc'
   rcases hc' with hc'|rfl
   ·rcases h.new c hc' with k|⟨k1,k2,k3,k4⟩
    ·exact .inl k
    ·exact .inr ⟨k1,k2,k3,.inl k4⟩
   ·exact .inr ⟨rfl,h1,fun d hd=>h2 d (h.old d hd),.inr rfl⟩
  ·rw[List.pairwise_append]
   refine ⟨h.nodup,List.pairwise_singleton _ _,fun c hc' d hd=>?_⟩
   rw[List.mem_singleton.1 hd]
   exact h2 c hc'
  ·rcases ht with ht|rfl
   ·obtain ⟨c,k1,k2⟩:=h.all t ht hn
    exact ⟨c,List.mem_append_left _ k1,k2⟩
   ·exact ⟨ZS t,by simp,rfl⟩
theorem Um (C:List Ch) (s:St):(Xl C s).length≤C.length+1:=by
 unfold Xl;split <;> simp
theorem Gth.full {l:List El} {h:Zz} {A C:List Ch} (hA:Yf h A) (hk:Xb h) (g:Gth A (fun s=>Xr l s=true∨∃ d∈A,d.under=s) C):∀ c,c∈C↔Yd l h A c.block=some c:=by
 intro c
 have hin:∀ d,d∈A↔h d.block=some d:=hA.1
 constructor
 ·intro hc
  rcases g.new c hc with k|⟨k1,k2,k3,k4⟩
  ·exact XI ((hin c).1 k)
  ·have e:h c.block=none:=by
    cases e:h c.block with
    | none=>rfl
    | some d =>
     have:=hk _ _ e
     exact absurd this (k3 d ((hin d).2 (by rw[this];exact e)))
   rw[Xv e ⟨k2,k4⟩]
   exact congrArg some k1.symm
 ·intro hc
  cases e:h c.block with
  | some d =>
   rw[XI e] at hc
   cases hc
   exact g.old _ ((hin _).2 e)
  | none =>
   by_cases k:Wo l A c.block
   ·obtain ⟨d,d1,d2⟩:=g.all _ k.2 k.1
    have hd:d=c:=by
     rw[Xv e k] at hc
     rcases g.new d d1 with j|⟨j1,_⟩
     ·have:=(hin d).1 j
      rw[d2,e] at this;cases this
     ·rw[j1,d2];exact Option.some.inj hc
    rw[←hd];exact d1
   ·rw[Xi e k] at hc;cases hc
theorem Gth.allOf {l:List El} {h:Zz} {A C D:List Ch} (hA:Yf h A) (hk:Xb h) (g:Gth A (fun s=>Xr l s=true∨∃ d∈A,d.under=s) C) (hp:D.Perm C) (hs:D.Pairwise (fun a b=>Yh a.block b.block)):Yf (Yd l h A) D :=
 ⟨fun c=>hp.mem_iff.trans (g.full hA hk c),hs⟩
theorem Gth.kidsOf {l:List El} {h:Zz} {A C D:List Ch} {u:St} (hA:Yf h A) (hk:Xb h) (g:Gth A (fun s=>Xr l s=true∨∃ d∈A,d.under=s) C) (hp:D.Perm (C.filter (fun c=>decide (c.under=u)))) (hs:D.Pairwise Yt):XR (Yd l h A) u D :=
 ⟨fun c=>by rw[hp.mem_iff,List.mem_filter,g.full hA hk c,decide_eq_true_eq],hs⟩
structure KM (base:Nat) (W:World) (kb:Nat) (F:St→List Ch) (lk:List (St × Sl)):Prop where
 map:Z4 St.val Sl.val W kb lk
 row:∀ u s,Z3 lk u=some s→Own Ch.cells 5 53 base W s.val (F u)
 non:∀ u,Z3 lk u=none→F u=[]
 far:∀ u u' s s' b,Z3 lk u=some s→Z3 lk u'=some s'→s.val.ownBlock=some b→s'.val.ownBlock=some b→u=u'
def YJ (base:Nat) (W:World) (k:Nat):Prop:=base≤k∧∃ cur,W.heap[k]?=some (.cells cur 53 (0,0))
def X1 (F:St→List Ch) (u:St) (l:List Ch):St→List Ch:=fun k=>if k=u then l else F k
def Z5:Sl:=⟨none,0,0⟩
section
variable {base:Nat} {W W':World} {kb:Nat} {F:St→List Ch} {lk:List (St × Sl)}
theorem KM.blk (h:KM base W kb F lk) {u:St} {s:Sl} (hs:Z3 lk u=some s) {b:Nat} (hb:s.val.ownBlock=some b):YJ base W b∧b≠kb:=by
 have ho:=h.row u s hs
 obtain ⟨cur,hc⟩:=ho.tag hb
 obtain ⟨_,es,clock,hm,_⟩:=h.map
 refine ⟨⟨(ho.blk b hb).1,cur,hc⟩,fun e=>?_⟩
 rw[e,hm] at hc
 cases hc
theorem KM.ext {S:Nat→Prop} (h:KM base W kb F lk) (hx:Ext S W W') (hk:¬ S kb) (hr:∀ b,YJ base W b→¬ S b):KM base W' kb F lk :=
 ⟨h.map.ext hx hk,fun u s hs=>(h.row u s hs).ext hx (fun b hb=>hr b (h.blk hs hb).1),h.non,h.far⟩
theorem KM.own (h:KM base W kb F lk) (u:St):Own Ch.cells 5 53 base W ((Z3 lk u).getD Z5).val (F u):=by
 cases e:Z3 lk u with
 | some s=>exact h.row u s e
 | none =>
  rw[h.non u e]
  exact Own.nil
theorem KM.put (h:KM base W kb F lk) {u:St} {l:List Ch} {s':Sl} {W2 W3 W4:World} (hx12:Ext (·=kb) W W2) (hx3:Ext (fun b=>((Z3 lk u).getD Z5).val.ownBlock=some b) W2 W3) (hown:Own Ch.cells 5 53 base W3 s'.val l)
  (hfr:∀ b,s'.val.ownBlock=some b→((Z3 lk u).getD Z5).val.ownBlock=some b∨W2.heap.size≤b) (hx4:Ext (·=kb) W3 W4) (hm:Z4 St.val Sl.val W4 kb (Zw lk u s')) :
  KM base W4 kb (X1 F u l) (Zw lk u s'):=by
 have hkb:=h.map.lt
 have hsz2:=hx12.size
 have h0:∀ b,((Z3 lk u).getD Z5).val.ownBlock=some b→YJ base W b∧b≠kb:=fun b hb=>by
  cases e:Z3 lk u with
  | some s=>rw[e] at hb;exact h.blk e hb
  | none=>rw[e] at hb;cases hb
 have hne:∀ b,s'.val.ownBlock=some b→b≠kb:=fun b hb e=>by
  rcases hfr b hb with h1|h1
  ·exact (h0 b h1).2 e
  ·omega
 have hoth:∀ k s b,k≠u→Z3 lk k=some s→s.val.ownBlock=some b→((Z3 lk u).getD Z5).val.ownBlock≠some b:=fun k s b hk hs hb e=>by
  cases e2:Z3 lk u with
  | some s0=>rw[e2] at e;exact hk (h.far k u s s0 b hs e2 hb e)
  | none=>rw[e2] at e;cases e
 have hlt:∀ k s b,Z3 lk k=some s→s.val.ownBlock=some b→b<W.heap.size:=fun k s b hs hb=>((h.row k s hs).blk b hb).2
 refine ⟨hm,fun k s hs=>?_,fun k hs=>?_,fun k k' s t b hs ht hb hb'=>?_⟩
 ·by_cases hk:k=u
  ·subst hk
   rw[ZX] at hs
   cases hs
   rw[X1,if_pos rfl]
   exact hown.ext hx4 (fun b hb=>hne b hb)
  ·rw[ZF _ _ (Ne.symm hk)] at hs
   rw[X1,if_neg hk]
   have o1:=(h.row k s hs).ext hx12 (fun b hb=>(h.blk hs hb).2)
   have o2:=o1.ext hx3 (fun b hb e=>hoth k s b hk hs hb e)
   exact o2.ext hx4 (fun b hb=>(h.blk hs hb).2)
 ·by_cases hk:k=u
  ·subst hk
   rw[ZX] at hs
   cases hs
  ·rw[ZF _ _ (Ne.symm hk)] at hs
   rw[X1,if_neg hk]
   exact h.non k hs
 ·have sep:∀ k s,k≠u→Z3 lk k=some s→s.val.ownBlock=some b→s'.val.ownBlock≠some b:=fun k s hk hs hb e=>by
   rcases hfr b e with h1|h1
   ·exact hoth k s b hk hs hb h1
   ·have:=hlt k s b hs hb;omega
  by_cases hk:k=u <;> by_cases hk':k'=u
  ·rw[hk,hk']
  ·subst hk
   rw[ZX] at hs
   rw[ZF _ _ (Ne.symm hk')] at ht
   cases hs
   exact absurd hb (sep k' t hk' ht hb')
  ·subst hk'
   rw[ZX] at ht
   rw[ZF _ _ (Ne.symm hk)] at hs
   cases ht
   exact absurd hb' (sep k s hk hs hb)
  ·rw[ZF _ _ (Ne.symm hk)] at hs
   rw[ZF _ _ (Ne.symm hk')] at ht
   exact h.far k k' s t b hs ht hb hb'
theorem KM.sort (h:KM base W kb F lk) {u:St} {s:Sl} {l:List Ch} (hs:Z3 lk u=some s) (hx:Ext (fun b=>s.val.ownBlock=some b) W W') (hown:Own Ch.cells 5 53 base W' s.val l):KM base W' kb (X1 F u l) lk:=by
 refine ⟨h.map.ext hx (fun e=>(h.blk hs e).2 rfl),fun k t ht=>?_,fun k ht=>?_,h.far⟩
 ·by_cases hk:k=u
  ·subst hk
   rw[hs] at ht
   cases ht
   rw[X1,if_pos rfl]
   exact hown
  ·rw[X1,if_neg hk]
   exact (h.row k t ht).ext hx (fun b hb e=>hk (h.far k u t s b ht hs hb e))
 ·have hk:k≠u:=fun e=>by rw[e,hs] at ht;cases ht
  rw[X1,if_neg hk]
  exact h.non k ht
end
def Y8 (C:List Ch) (u:St):List Ch:=C.filter (fun c=>decide (c.under=u))
theorem Un (C:List Ch) (c:Ch):Y8 (C++[c])=X1 (Y8 C) c.under (Y8 C c.under++[c]):=by
 funext u
 unfold Y8 X1
 rw[List.filter_append]
 by_cases h:u=c.under
 ·subst h;simp
 ·simp[h,Ne.symm h]
theorem Vr (C:List Ch) (u:St):(Y8 C u).length≤C.length:=List.length_filter_le _ _
def YH (W:World) (sb n:Nat) (C:List Ch):Prop:=∃ ls:List (St × Int),Z4 St.val Y6 W sb ls∧(∀ u,(Z3 ls u).getD 0=0↔¬ (u=⟨0,0⟩∨∃ c∈C,c.block=u))∧∀ u v,Z3 ls u=some v→0≤v∧v≤n
theorem YH.ext {S:Nat→Prop} {W W':World} {sb n:Nat} {C:List Ch} (h:YH W sb n C) (hx:Ext S W W') (hs:¬ S sb):YH W' sb n C:=by
 obtain ⟨ls,h1,h2⟩:=h
 exact ⟨ls,h1.ext hx hs,h2⟩
theorem Tz {ls:List (St × Int)} {n:Nat} {C C':List Ch} {u:St} (h2:∀ u,(Z3 ls u).getD 0=0↔¬ (u=⟨0,0⟩∨∃ c∈C,c.block=u)) (h3:∀ u v,Z3 ls u=some v→0≤v∧v≤(n:Int)) (hC:∀ k,(∃ c∈C',c.block=k)↔(∃ c∈C,c.block=k)∨k=u) :
  (∀ k,(Z3 (Zw ls u ((Z3 ls u).getD 0+1)) k).getD 0=0↔¬ (k=⟨0,0⟩∨∃ c∈C',c.block=k))∧∀ k v,Z3 (Zw ls u ((Z3 ls u).getD 0+1)) k=some v→0≤v∧v≤((n+1:Nat):Int):=by
 have hb:0≤(Z3 ls u).getD 0∧(Z3 ls u).getD 0≤(n:Int):=by
  cases e:Z3 ls u with
  | none=>simp
  | some v=>exact h3 u v e
 constructor
 ·intro k
  rw[hC k]
  by_cases hk:k=u
  ·subst hk
   rw[ZX]
   simp
   omega
  ·rw[ZF _ _ (Ne.symm hk),h2 k]
   simp[hk]
 ·intro k v hv
  by_cases hk:k=u
  ·subst hk
   rw[ZX] at hv
   cases hv
   omega
  ·rw[ZF _ _ (Ne.symm hk)] at hv
   have:=h3 k v hv
   omega
theorem Xp:Tryz.prog.underlying 103=some (.map 23 48):=by kernel_rfl
theorem XX (w:World):(zeroValue 48).run Tryz.prog w=.ok (.slice none 0 0) w:=by kernel_rfl
theorem Vk:Tryz.prog.underlying 48=some (.slice 53):=by kernel_rfl
theorem Qn {C:List Ch} {s:St} (h:s=⟨0,0⟩∨∃ c∈C,c.block=s):Xl C s=C:=if_pos h
theorem RM {C:List Ch} {s:St} (h:¬ (s=⟨0,0⟩∨∃ c∈C,c.block=s)):Xl C s=C++[ZS s]:=if_neg h
def Qd (base sb kb n:Nat) (C:List Ch) (s:St) (w:World) (e:Ending) (w':World):Prop :=
 e=.returned (.tuple #[])∧YH w' sb (n+1) (Xl C s)∧(∃ lk,KM base w' kb (Y8 (Xl C s)) lk)∧Ext (fun k=>k=sb∨k=kb∨YJ base w k) w w'
theorem Ta (base sx sb bx bb kb n:Nat) (C:List Ch) (lk:List (St × Sl)) (sn sr:Int) (w:World) (hsx:w.cell? ⟨sx,0,none⟩=some (.map (some sb))) (hbx:w.cell? ⟨bx,0,none⟩=some (.pointer (some ⟨bb,0,none⟩))) (hbb:w.cell? ⟨bb,2,none⟩=some (.map (some kb)))
  (hS:YH w sb n C) (hK:KM base w kb (Y8 C) lk) (hne:sb≠kb) (hnx:¬ YJ base w bx) (hnb:¬ YJ base w bb) (hn:n≤10000) (hC:C.length≤10000) (hbase:base≤w.heap.size) :
  Calls Tryz.prog 64 #[.agg #[.int .i64 sn,.int .i64 sr],.pointer (some ⟨sx,0,none⟩),.pointer (some ⟨bx,0,none⟩)] w fun e w'=>Qd base sb kb n C ⟨sn,sr⟩ w e w':=by
 obtain ⟨ls,hm,hz,hv⟩:=hS
 have hB0:Below w.heap.size w (w.alloc (.cells #[.int .i64 sn,.int .i64 sr] 23)):=(Below.refl _ _).alloc (Nat.le_refl _) _
 have x0:(w.alloc (.cells #[.int .i64 sn,.int .i64 sr] 23)).cell? ⟨w.heap.size,0,none⟩=some (.int .i64 sn):=by go_simp
 have x1:(w.alloc (.cells #[.int .i64 sn,.int .i64 sr] 23)).cell? ⟨w.heap.size,1,none⟩=some (.int .i64 sr):=by go_simp
 have m1:=hm.below hB0
 have k1:=hK.ext (Ext.of_below (S:=fun _=>False) hB0) (fun f=>f) (fun _ _ f=>f)
 have c1:=Z0 hB0 hsx
 have c2:=Z0 hB0 hbx
 have c3:=Z0 hB0 hbb
 have hlt:=hm.lt
 have hltk:=hK.map.lt
 have hrw:∀ b,YJ base (w.alloc (.cells #[.int .i64 sn,.int .i64 sr] 23)) b→b<w.heap.size→YJ base w b:=fun b hb hl=>⟨hb.1,by rw[←hB0.block b hl];exact hb.2⟩
 have hrn:¬ YJ base (w.alloc (.cells #[.int .i64 sn,.int .i64 sr] 23)) w.heap.size:=fun h=>by
  obtain ⟨_,cur,hc⟩:=h
  have:=hc.symm.trans (World.alloc_heap_new w _)
  cases this
 have HRW:=Lib.hid hrw
 have HRN:=Lib.hid hrn
 have hs1:(w.alloc (.cells #[.int .i64 sn,.int .i64 sr] 23)).heap.size=w.heap.size+1:=by simp
 have hlk:∀ W,Z4 St.val Y6 W sb ls→(Instr.lookup 135 (.map (some sb)) (.agg #[.int .i64 sn,.int .i64 sr]) false).run Tryz.prog W=.ok (.int .i64 ((Z3 ls ⟨sn,sr⟩).getD 0)) W:=fun W hW=>by
  have:=hW.lookup ZU YU WA ⟨sn,sr⟩
  rw[show ((Z3 ls ⟨sn,sr⟩).map Y6).getD (.int .i64 0)=.int .i64 ((Z3 ls ⟨sn,sr⟩).getD 0) from by cases Z3 ls ⟨sn,sr⟩ <;> rfl] at this
  exact this
 have HB0:=Lib.hid hB0
 have HZ:=Lib.hid hz
 have HV:=Lib.hid hv
 have HLX:=Jh (Zy hbx)
 have HLB:=Jh (Zy hbb)
 clear hsx hbx hbb hm hK hB0 hz hv hrw hrn
 by_cases h0:(Z3 ls ⟨sn,sr⟩).getD 0=0
 ·have hnew:=(HZ.out ⟨sn,sr⟩).1 h0
  have hmp:=RM hnew
  have hmp2:∀ k,(∃ c∈C++[ZS ⟨sn,sr⟩],c.block=k)↔(∃ c∈C,c.block=k)∨k=⟨sn,sr⟩:=fun k=>by
   constructor
   ·rintro ⟨c,hc,e⟩
    rcases List.mem_append.1 hc with hc|hc
    ·exact .inl ⟨c,hc,e⟩
    ·rw[List.mem_singleton.1 hc] at e;exact .inr e.symm
   ·rintro (⟨c,hc,e⟩|rfl)
    ·exact ⟨c,List.mem_append_left _ hc,e⟩
    ·exact ⟨ZS ⟨sn,sr⟩,by simp,rfl⟩
  have HSP:=Jh (Tz HZ.out HV.out hmp2)
  rw[h0] at HSP hlk
  have hen:=m1.entry ZU YU WA ⟨sn,sr⟩ (0:Int)
  rw[show ((Z3 ls ⟨sn,sr⟩).map Y6).getD (.int .i64 0)=.int .i64 0 from by rw[show (Z3 ls ⟨sn,sr⟩).map Y6=(Z3 ls ⟨sn,sr⟩).map Y6 from rfl];revert h0;cases Z3 ls ⟨sn,sr⟩ <;> simp[Y6]] at hen
  obtain ⟨st,es1,cl1,e1,e2,e3,e4⟩:=hen
  have HMP:=Lib.hid hmp
  clear hmp hmp2 hnew h0
  go_enter Tryz.func64,Tryz.ntmps64
  go_upto_region 2 with fail
  generalize w.alloc (.cells #[.int .i64 sn,.int .i64 sr] 23)=w1 at *
  have hsb:sb<w1.heap.size:=by omega
  have hS0:(fun W:World=>W.cell? ⟨sx,0,none⟩=some (.map (some sb))∧W.cell? ⟨w.heap.size,0,none⟩=some (.int .i64 sn)∧W.cell? ⟨w.heap.size,1,none⟩=some (.int .i64 sr)∧(Instr.lookup 135 (.map (some sb)) (.agg #[.int .i64 sn,.int .i64 sr]) false).run Tryz.prog W=.ok (.int .i64 0) W) w1.drew:=⟨c1,x0,x1,hlk _ m1.drew⟩
  refine Zq (fun W:World=>W.cell? ⟨sx,0,none⟩=some (.map (some sb))∧W.cell? ⟨w.heap.size,0,none⟩=some (.int .i64 sn)∧W.cell? ⟨w.heap.size,1,none⟩=some (.int .i64 sr)∧(Instr.lookup 135 (.map (some sb)) (.agg #[.int .i64 sn,.int .i64 sr]) false).run Tryz.prog W=.ok (.int .i64 0) W) (fun i=>i == 6) (by kernel_rfl) ?_
  refine J4 0 8 _ hS0 ?_
  try simp only[Ja]
  refine J4 1 9 _ hS0 ?_
  try simp only[Ja]
  refine J4 2 10 (.int .i64 0) hS0 ?_
  try simp only[Ja]
  refine J4 3 11 (.int .i64 1) hS0 ?_
  try simp only[Ja]
  refine Zg (i:=4) (d:=some 12) (v:=.tuple #[.int .i64 0,.int .i64 st]) (w':=w1.drew.putObj sb (.map es1 cl1)) (by kernel_rfl) rfl rfl (by rfl) (by have q:(Instr.mapEntry 135 (.map (some sb)) (.agg #[.int .i64 sn,.int .i64 sr])).run Tryz.prog w1.drew=_:=e1 w1.drew rfl;go_simp;try rw[q]) (fun _=>?_) ?_
  ·obtain ⟨es0,k0,hb0,-⟩:=m1.2
   exact ⟨(Ya hb0 _ _ _).trans c1,(Ya hb0 _ _ _).trans x0,(Ya hb0 _ _ _).trans x1,e3 _ (World.putObj_heap_same hsb)⟩
  try simp only[Ja]
  obtain ⟨es2,cl2,f1,f2⟩:=e4 (w1.drew.putObj sb (.map es1 cl1)) (1:Int) (World.putObj_heap_same hsb)
  have hS1:(fun W:World=>W.cell? ⟨sx,0,none⟩=some (.map (some sb))∧W.cell? ⟨w.heap.size,0,none⟩=some (.int .i64 sn)∧W.cell? ⟨w.heap.size,1,none⟩=some (.int .i64 sr)∧(Instr.lookup 135 (.map (some sb)) (.agg #[.int .i64 sn,.int .i64 sr]) false).run Tryz.prog W=.ok (.int .i64 0) W) (w1.drew.putObj sb (.map es1 cl1)):=by
   obtain ⟨es0,k0,hb0,-⟩:=m1.2
   exact ⟨(Ya hb0 _ _ _).trans c1,(Ya hb0 _ _ _).trans x0,(Ya hb0 _ _ _).trans x1,e3 _ (World.putObj_heap_same hsb)⟩
  refine Zg (i:=5) (d:=some 13) (v:=.int .i64 st) (w':=w1.drew.putObj sb (.map es1 cl1)) (by kernel_rfl) rfl rfl (by rfl) (by go_simp;try rfl) (fun _=>hS1) ?_
  try simp only[Ja]
  refine Zn (i:=6) (d:=none) (w':=(w1.drew.putObj sb (.map es1 cl1)).putObj sb (.map es2 cl2)) (by kernel_rfl) rfl rfl (by rfl) (by have q:(Instr.entryStore 135 (.map (some sb)) (.int .i64 st) (.int .i64 1)).run Tryz.prog (w1.drew.putObj sb (.map es1 cl1))=_:=f1;go_simp;try rw[q]) (fun h=>by cases h) ?_
  try simp only[Ja]
  refine Zi (by kernel_rfl) ?_ _
  have hxa:Ext (·=sb) w1 ((w1.drew.putObj sb (.map es1 cl1)).putObj sb (.map es2 cl2)):=(Ext.refl _ _).drew.trans ((Yy _ _ _).trans (Yy _ _ _))
  rw[show (0:Int)+1=1 from rfl] at HSP
  have HSN:Hid (YH ((w1.drew.putObj sb (.map es1 cl1)).putObj sb (.map es2 cl2)) sb (n+1) (C++[ZS ⟨sn,sr⟩])):=Lib.hid ⟨_,f2,HSP.out.1,HSP.out.2⟩
  have k2:=k1.ext hxa (Ne.symm hne) (fun b hb e=>by
   obtain ⟨es0,k0,hb0,-⟩:=m1.2
   obtain ⟨_,cur,hc⟩:=hb
   rw[e,hb0] at hc
   cases hc)
  have d2:=hxa.keep c2 (fun e=>by
   obtain ⟨es0,k0,hb0,-⟩:=m1.2
   simp only[World.cell?,e,hb0] at c2
   cases c2)
  have d3:=hxa.keep c3 (fun e=>by
   obtain ⟨es0,k0,hb0,-⟩:=m1.2
   simp only[World.cell?,e,hb0] at c3
   cases c3)
  have y0:=hxa.keep x0 (by omega)
  have y1:=hxa.keep x1 (by omega)
  have hza:=hxa.size
  have HXA:=Lib.hid hxa
  have HSN2:=f2.2
  have HM1:=Lib.hid m1.2
  clear hS0 hS1 e1 e2 e3 e4 f1 f2 hlk m1 k1 c1 c2 c3 x0 x1 hxa HSP HZ HV
  generalize (w1.drew.putObj sb (.map es1 cl1)).putObj sb (.map es2 cl2)=w2 at *
  go_upto_region 3 with fail
  obtain ⟨i0,hi,hz0,hz1,hz2⟩:=info_parts VM
  have hlook:∀ W,W.heap[kb]?=w2.heap[kb]?→(Instr.lookup 103 (.map (some kb)) (.agg #[.int .i64 0,.int .i64 0]) false).run Tryz.prog W=.ok (.slice ((Z3 lk ⟨0,0⟩).getD Z5).a ((Z3 lk ⟨0,0⟩).getD Z5).n ((Z3 lk ⟨0,0⟩).getD Z5).cap) W:=fun W hW=>by
   have:=(k2.map.of_block hW).lookup ZU Xp XX ⟨0,0⟩
   rw[show ((Z3 lk ⟨0,0⟩).map Sl.val).getD (.slice none 0 0)=((Z3 lk ⟨0,0⟩).getD Z5).val from by cases Z3 lk ⟨0,0⟩ <;> rfl] at this
   exact this
  have hown0:=k2.own ⟨0,0⟩
  have hfl:=Vr C ⟨0,0⟩
  have hrun0:=X2 (P:=Tryz.prog) 48 48 i0 (.agg #[.int .i64 0,.int .i64 0,.int .i64 0,.int .i64 0,.string ⟨#[]⟩]) 48 Vk hi hz0 hz1 hz2 rfl (by omega) (fun _=>rfl) (fun x u hu=>by simp[Ch.cells] at hu;rcases hu with rfl|rfl|rfl|rfl|rfl <;> rfl) (hown0.drew.alloc (.cells #[.int .i64 sn,.int .i64 sr,.int .i64 0,.int .i64 0,.string ⟨#[]⟩] 53)) (ZS ⟨sn,sr⟩) w2.heap.size 1 (fun j u hj=>by
   match j,hj with
   | 0,hj=>simp[Ch.cells,ZS] at hj;subst hj;go_simp
   | 1,hj=>simp[Ch.cells,ZS] at hj;subst hj;go_simp
   | 2,hj=>simp[Ch.cells,ZS] at hj;subst hj;go_simp
   | 3,hj=>simp[Ch.cells,ZS] at hj;subst hj;go_simp
   | 4,hj=>simp[Ch.cells,ZS] at hj;subst hj;go_simp
   | n+5,hj=>simp[Ch.cells,ZS] at hj) (by unfold maxLen;omega) (by omega) (by simp;omega)
  have hx12:Ext (·=kb) w2 (w2.drew.alloc (.cells #[.int .i64 sn,.int .i64 sr,.int .i64 0,.int .i64 0,.string ⟨#[]⟩] 53)):=(Ext.refl _ _).drew.alloc _
  obtain ⟨v3,w3,hr3,hown3,hx3,hfr3⟩:=hrun0
  obtain ⟨s3,rfl⟩:∃ s3:Sl,v3=.slice s3.a s3.n s3.cap:=by
   rcases hown3.eq_slice with ⟨e,_⟩|⟨g,c,e,_⟩
   ·exact ⟨Z5,e⟩
   ·exact ⟨⟨_,_,_⟩,e⟩
  have hm2:Z4 St.val Sl.val (w2.drew.alloc (.cells #[.int .i64 sn,.int .i64 sr,.int .i64 0,.int .i64 0,.string ⟨#[]⟩] 53)) kb lk:=k2.map.drew.alloc _
  have hm3:Z4 St.val Sl.val w3 kb lk:=hm2.ext hx3 (fun e=>by
   cases e2:Z3 lk ⟨0,0⟩ with
   | some s=>rw[e2] at e;exact (k2.blk e2 e).2 rfl
   | none=>rw[e2] at e;cases e)
  have hupd:(Instr.mapUpdate 103 (.map (some kb)) (.agg #[.int .i64 0,.int .i64 0]) (.slice s3.a s3.n s3.cap)).run Tryz.prog w3=.ok () (Zo w3 kb (Zv lk ⟨0,0⟩) (St.val ⟨0,0⟩) s3.val):=hm3.update ZU Xp ⟨0,0⟩ s3.val
  have hfin:=k2.put (l:=Y8 C ⟨0,0⟩++[ZS ⟨sn,sr⟩]) hx12 hx3 hown3 hfr3 (YE w3 kb (Zv lk ⟨0,0⟩) (St.val ⟨0,0⟩) s3.val) (hm3.put ⟨0,0⟩ s3)
  have hfil:X1 (Y8 C) ⟨0,0⟩ (Y8 C ⟨0,0⟩++[ZS ⟨sn,sr⟩])=Y8 (C++[ZS ⟨sn,sr⟩]):=(Un C (ZS ⟨sn,sr⟩)).symm
  rw[hfil] at hfin
  have hxb:Ext (fun k=>k=kb∨YJ base w2 k) w2 (Zo w3 kb (Zv lk ⟨0,0⟩) (St.val ⟨0,0⟩) s3.val):=((hx12.mono (fun _ _ e=>.inl e)).andThen hx3 (fun i hi e=>by
   cases e2:Z3 lk ⟨0,0⟩ with
   | some s=>rw[e2] at e;exact .inr (k2.blk e2 e).1
   | none=>rw[e2] at e;cases e)).andThen (YE w3 kb (Zv lk ⟨0,0⟩) (St.val ⟨0,0⟩) s3.val) (fun i hi e=>.inl e)
  have HFIN:=Lib.hid hfin
  have HXB:=Lib.hid hxb
  obtain ⟨sa,sm,sc,hs0⟩:∃ sa sm sc,(Z3 lk ⟨0,0⟩).getD Z5=⟨sa,sm,sc⟩:=⟨_,_,_,rfl⟩
  rw[hs0] at hlook hr3
  simp only[Sl.val] at hr3
  have hkz:w2.heap[kb]?=w2.drew.heap[kb]?:=rfl
  have hkl:kb<w2.heap.size:=k2.map.lt
  have hrow:∀ b,((Z3 lk ⟨0,0⟩).getD Z5).val.ownBlock=some b→b≠kb∧YJ base w2 b∧b≠sb:=fun b hb=>by
   cases e2:Z3 lk ⟨0,0⟩ with
   | some s =>
    rw[e2] at hb
    refine ⟨(k2.blk e2 hb).2,(k2.blk e2 hb).1,fun e=>?_⟩
    obtain ⟨_,cur,hc⟩:=(k2.blk e2 hb).1
    obtain ⟨es0,k0,hb0,-⟩:=HSN2
    rw[e,hb0] at hc
    cases hc
   | none=>rw[e2] at hb;cases hb
  have hback:∀ b,YJ base w2 b→b≠sb→b<w1.heap.size→YJ base w1 b:=fun b hb hs hl=>⟨hb.1,by rw[←HXA.out.block b hl hs];exact hb.2⟩
  have hbxl:=Zy d2
  have hbbl:=Zy d3
  have hxx:∀ b,b<w.heap.size→¬ YJ base w b→¬ (((Z3 lk ⟨0,0⟩).getD Z5).val.ownBlock=some b):=fun b hl hn e=>by
   obtain ⟨_,r1,r2⟩:=hrow b e
   exact hn (HRW.out b (hback b r1 r2 (by omega)) hl)
  have hS3:w3.cell? ⟨bx,0,none⟩=some (.pointer (some ⟨bb,0,none⟩))∧w3.cell? ⟨bb,2,none⟩=some (.map (some kb))∧w3.cell? ⟨w.heap.size,0,none⟩=some (.int .i64 sn)∧w3.cell? ⟨w.heap.size,1,none⟩=some (.int .i64 sr)∧w3.heap[kb]?=w2.heap[kb]?:=by
   have hX:¬ (((Z3 lk ⟨0,0⟩).getD Z5).val.ownBlock=some w.heap.size):=fun e=>by
    obtain ⟨_,r1,r2⟩:=hrow _ e
    exact HRN.out (hback _ r1 r2 (by omega))
   refine ⟨hx3.keep (Z2 d2 _) (hxx _ HLX.out hnx),hx3.keep (Z2 d3 _) (hxx _ HLB.out hnb),hx3.keep (Z2 y0 _) hX,hx3.keep (Z2 y1 _) hX,?_⟩
   exact (hx3.block kb (by simp;exact Nat.lt_succ_of_lt k2.map.lt) (fun e=>(hrow _ e).1 rfl)).trans (Below.heap_alloc _ _ _ k2.map.lt)
  have HS3:=Lib.hid hS3
  clear hS3 hxx hback hrow
  clear hfin hxb hfil hown0 hown3 hx3 hfr3 hm2 hm3 hs0
  have hS0:(fun W:World=>W.cell? ⟨bx,0,none⟩=some (.pointer (some ⟨bb,0,none⟩))∧W.cell? ⟨bb,2,none⟩=some (.map (some kb))∧W.cell? ⟨w.heap.size,0,none⟩=some (.int .i64 sn)∧W.cell? ⟨w.heap.size,1,none⟩=some (.int .i64 sr)∧W.heap[kb]?=w2.heap[kb]?) w2.drew:=⟨d2,d3,y0,y1,rfl⟩
  refine Zq (fun W:World=>W.cell? ⟨bx,0,none⟩=some (.pointer (some ⟨bb,0,none⟩))∧W.cell? ⟨bb,2,none⟩=some (.map (some kb))∧W.cell? ⟨w.heap.size,0,none⟩=some (.int .i64 sn)∧W.cell? ⟨w.heap.size,1,none⟩=some (.int .i64 sr)∧W.heap[kb]?=w2.heap[kb]?) (fun i=>i == 15) (by kernel_rfl) ?_
  refine JR 0 14 _ rfl rfl hS0 (fun W hW=>by obtain ⟨q0,q1,q2,q3,q4⟩:=hW;go_simp;try rfl) ?_
  try simp only[Ja]
  refine JR 1 15 _ rfl rfl hS0 (fun W hW=>by obtain ⟨q0,q1,q2,q3,q4⟩:=hW;go_simp;try rfl) ?_
  try simp only[Ja]
  refine JR 2 16 _ rfl rfl hS0 (fun W hW=>by obtain ⟨q0,q1,q2,q3,q4⟩:=hW;go_simp;try rfl) ?_
  try simp only[Ja]
  refine JR 3 17 (.map (some kb)) rfl rfl hS0 (fun W hW=>by obtain ⟨q0,q1,q2,q3,q4⟩:=hW;go_simp;try rfl) ?_
  try simp only[Ja]
  refine JR 4 18 (.agg #[.int .i64 0,.int .i64 0]) rfl rfl hS0 (fun W hW=>by obtain ⟨q0,q1,q2,q3,q4⟩:=hW;go_simp;try rfl) ?_
  try simp only[Ja]
  refine JR 5 19 _ rfl rfl hS0 (fun W hW=>by obtain ⟨q0,q1,q2,q3,q4⟩:=hW;go_simp;try rfl) ?_
  try simp only[Ja]
  refine JR 6 20 _ rfl rfl hS0 (fun W hW=>by obtain ⟨q0,q1,q2,q3,q4⟩:=hW;go_simp;try rfl) ?_
  try simp only[Ja]
  refine JR 7 21 _ rfl rfl hS0 (fun W hW=>by obtain ⟨q0,q1,q2,q3,q4⟩:=hW;go_simp;try rfl) ?_
  try simp only[Ja]
  refine JR 8 22 (.map (some kb)) rfl rfl hS0 (fun W hW=>by obtain ⟨q0,q1,q2,q3,q4⟩:=hW;go_simp;try rfl) ?_
  try simp only[Ja]
  refine JR 9 23 (.agg #[.int .i64 0,.int .i64 0]) rfl rfl hS0 (fun W hW=>by obtain ⟨q0,q1,q2,q3,q4⟩:=hW;go_simp;try rfl) ?_
  try simp only[Ja]
  refine JR 10 24 (.slice sa sm sc) rfl rfl hS0 (fun W hW=>by obtain ⟨q0,q1,q2,q3,q4⟩:=hW;have q5:=hlook W q4;go_simp;try rfl) ?_
  try simp only[Ja]
  refine JR 11 25 (.agg #[.int .i64 sn,.int .i64 sr]) rfl rfl hS0 (fun W hW=>by obtain ⟨q0,q1,q2,q3,q4⟩:=hW;go_simp;try rfl) ?_
  try simp only[Ja]
  refine JR 12 26 (.agg #[.int .i64 sn,.int .i64 sr,.int .i64 0,.int .i64 0,.string ⟨#[]⟩]) rfl rfl hS0 (fun W hW=>by obtain ⟨q0,q1,q2,q3,q4⟩:=hW;go_simp;try rfl) ?_
  try simp only[Ja]
  refine Zg (i:=13) (d:=some 27) (v:=.slice (some ⟨w2.heap.size,0,none⟩) 1 1) (w':=w2.drew.alloc (.cells #[.int .i64 sn,.int .i64 sr,.int .i64 0,.int .i64 0,.string ⟨#[]⟩] 53)) (by kernel_rfl) rfl rfl (by rfl) (by go_simp;try rfl) (fun _=>⟨Z2 d2 _,Z2 d3 _,Z2 y0 _,Z2 y1 _,Below.heap_alloc _ _ _ hkl⟩) ?_
  try simp only[Ja]
  refine Zg (i:=14) (d:=some 28) (v:=.slice s3.a s3.n s3.cap) (w':=w3) (by kernel_rfl) rfl rfl (by rfl) (Xt rfl rfl rfl hr3) (fun _=>HS3.out) ?_
  try simp only[Ja]
  refine Zn (i:=15) (d:=none) (w':=Zo w3 kb (Zv lk ⟨0,0⟩) (St.val ⟨0,0⟩) s3.val) (by kernel_rfl) rfl rfl (by rfl) (by go_simp;try rw[hupd]) (fun h=>by cases h) ?_
  try simp only[Ja]
  refine Zi (by kernel_rfl) ?_ _
  go_wp2_with fail
  go_end0
  have hbk:∀ b,YJ base w2 b→b=sb∨(b<w.heap.size→YJ base w b):=fun b hb=>by
   by_cases e:b=sb
   ·exact .inl e
   ·exact .inr (fun hl=>HRW.out b ⟨hb.1,by rw[←HXA.out.block b (by omega) e];exact hb.2⟩ hl)
  have hnsb:¬ YJ base w2 sb:=fun h=>by
   obtain ⟨_,cur,hc⟩:=h
   obtain ⟨es0,k0,hb0,-⟩:=HSN2
   rw[hb0] at hc
   cases hc
  refine ⟨rfl,?_,⟨Zw lk ⟨0,0⟩ s3,?_⟩,?_⟩
  ·rw[HMP.out]
   exact HSN.out.ext HXB.out (fun e=>e.elim (fun e=>hne e) (fun e=>hnsb e))
  ·rw[HMP.out]
   exact HFIN.out
  ·refine (((Ext.of_below (S:=fun k=>k=sb∨k=kb∨YJ base w k) HB0.out).andThen HXA.out (fun i hi e=>.inl e)).andThen HXB.out (fun i hi e=>?_))
   rcases e with e|e
   ·exact .inr (.inl e)
   ·rcases hbk i e with h|h
    ·exact .inl h
    ·exact .inr (.inr (h hi))
 ·have hin:(⟨sn,sr⟩:St)=⟨0,0⟩∨∃ c∈C,c.block=⟨sn,sr⟩:=Classical.byContradiction (fun h=>h0 ((HZ.out ⟨sn,sr⟩).2 h))
  have hmp:=Qn hin
  generalize (Z3 ls ⟨sn,sr⟩).getD 0=q at hlk h0
  have hlk1:=hlk _ m1
  have HLK:=Lib.hid hlk
  clear hin hlk
  go_enter Tryz.func64,Tryz.ntmps64
  go_wp2_with fail
  go_end0
  refine ⟨rfl,?_,⟨lk,?_⟩,?_⟩
  ·rw[hmp]
   refine ⟨ls,m1,HZ.out,fun u v h=>?_⟩
   have:=HV.out u v h
   omega
  ·rw[hmp];exact k1
  ·exact Ext.of_below HB0.out
end Go.Proofs.YtlgipkemoldckaaGreatDoor
