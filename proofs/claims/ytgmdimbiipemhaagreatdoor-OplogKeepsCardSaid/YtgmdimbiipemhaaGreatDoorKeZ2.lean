/- OplogKeeps, part 2 of what the proof leans on (made short by a program). -/
import Derived.Test.YtgmdimbiipemhaaGreatDoorKeZ1
import Derived.Shelf.SlIter.Nil
import Derived.Shelf.SortM.Plain
import Derived.Shelf.SortM.SortNone
import Derived.Shelf.SlMaps.Clone
import Derived.Lib.AppendZerosOnto
import Derived.Shelf.Bits.Mul64
import Derived.Shelf.Slices.Turned
import Derived.Shelf.Slices.Clone
import Derived.Shelf.Strings.Prefix
import Derived.Shelf.Strings.SlTrimAscii
set_option linter.unusedSimpArgs false
set_option linter.unusedVariables false
set_option linter.unusedSectionVars false
set_option maxRecDepth 20000
set_option maxHeartbeats 30000000
namespace Go.Proofs.YtgmdimbiipemhaaGreatDoor
open Go.RowKit Go.Deep
def Zf (ps:List PcA):List UInt8:=ps.flatMap (·.bs)
theorem Vr (ps:List PcA):(Zf ps).length=Zu ps:=by simp[Zf,Zu,List.length_flatMap]
theorem Z2D {ps:List PcA} {k:Nat} {p:PcA} (h:ps[k]?=some p):Zf (ps.take (k+1))=Zf (ps.take k)++p.bs:=by
 unfold Zf
 rw[List.take_add_one,h,Option.toList_some,List.flatMap_append]
 simp
theorem Qb (ps:List PcA) (k:Nat):Zu (ps.take k)≤Zu ps:=by
 unfold Zu
 conv=>rhs;rw[←List.take_append_drop k ps]
 rw[List.map_append,List.sum_append]
 omega
theorem Z0J {ps:List PcA} {k:Nat} {p:PcA} (h:ps[k]?=some p):Zu (ps.take k)+p.bs.length≤Zu ps:=by
 have:=Qb ps (k+1)
 rw[List.take_add_one,h,Option.toList_some,Vf] at this
 exact this
def Rl (base:Nat) (w:World) (D:DSh) (A:Z2) (name:ByteArray) (e:Ending) (w':World):Prop :=
 (Z5 A.files name=none∧e=.returned (.tuple #[.slice none 0 0,.int .i64 61])∧w'=w) ∨
 (∃ f v,Z5 A.files name=some f∧e=.returned (.tuple #[v,.int .i64 0])∧Own u8c 1 5 w.heap.size w' v (Zf (A.fs f))∧Below w.heap.size w w')
theorem Z1M {base:Nat} {w:World} {D:DSh} {A:Z2} (h:Z4 base w D A) (name:ByteArray) {N:Nat} (hsm:A.Small N) (hN:N≤1000000000) :
  Calls Tryz.prog 35 #[.pointer (some ⟨D.pb,0,none⟩),.string name] w fun e w'=>Rl base w D A name e w':=by
 obtain ⟨i0,hi,hz0,hz1,hz2⟩:=info_parts Ym
 go_enter Tryz.func35,Tryz.ntmps35
 go_wp2_with fail
 refine (Ur h name).mono ?_
 rintro e w1 ⟨rfl,rfl⟩
 unfold TC
 cases hg:Z5 A.files name with
 | none =>
  simp only[Option.isSome_none,XO,Option.map_none]
  have HH:=Lib.hid h
  clear h
  go_wp2
  refine bodyPost_ret (results_tmp2 rfl _ _ _) rfl ?_
  exact .inl ⟨hg,rfl,rfl⟩
 | some f =>
  simp only[Option.isSome_some,XO,Option.map_some,if_true]
  have hf:=(h.ok.inf _ _ (V5 hg)).1
  have hsz:=h.ok.sz f hf
  have HG:=Lib.hid hg
  have hF3:=h.file f hf
  obtain ⟨hbf,hfb3,qs,hqo,hql,hqp⟩:=id hF3
  obtain ⟨va,vcap,hvc⟩:∃ va vcap,D.rv f=.slice va qs.length vcap:=by
   rcases hqo.eq_slice with ⟨e,e2⟩|⟨g,c,e,_⟩
   ·exact ⟨none,0,by rw[e,e2];rfl⟩
   ·exact ⟨_,_,e⟩
  have hlq:qs.length≤1000000001:=by have:=hsm.pcs f hf;omega
  have f0:=Joins.cell_of_block hfb3 0
  simp only[List.getElem?_toArray,List.getElem?_cons_succ,List.getElem?_cons_zero,hvc] at f0
  have HVC:=Lib.hid hvc
  have HQO:=Lib.hid hqo
  have HQP:=Lib.hid hqp
  have HQL:=Lib.hid hql
  clear h hF3 hfb3 hqo hql hqp hvc hsm hf hg
  go_wp2_with fail
  go_loopg [8,25] qs.length (fun g vv iv wr=>∃ (k:Nat) (s:Sl),g=qs.length - k∧k≤qs.length∧vv=.slice s.a s.n s.cap∧iv=.int .i64 k∧Hid (Own u8c 1 5 w1.heap.size wr (.slice s.a s.n s.cap) (Zf ((A.fs f).take k))∧Below w1.heap.size w1 wr))
  case atStart=>exact ⟨0,⟨none,0,0⟩,by omega,by omega,rfl,rfl,Lib.hid ⟨by simp only[List.take_zero];exact Own.nil,Below.refl _ _⟩⟩
  case round =>
   obtain ⟨k,⟨sa,sn,sc⟩,hg,hk,rfl,rfl,hU⟩:=hrel
   dsimp only at hU ⊢
   have HGG:=Lib.hid hg
   clear hg
   by_cases hkl:k<qs.length
   ·obtain ⟨q,hq⟩:∃ q,qs[k]?=some q:=⟨_,List.getElem?_eq_getElem hkl⟩
    obtain ⟨p,hp⟩:∃ p,(A.fs f)[k]?=some p:=⟨_,List.getElem?_eq_getElem (by rw[←HQL.out];exact hkl)⟩
    obtain ⟨⟨qa,qn,qc⟩,qcame,qsafe⟩:=q
    have ho:=HQO.out
    rw[HVC.out] at ho
    obtain ⟨g,e1⟩:∃ g,va=some ⟨g,0,none⟩:=by
     rcases ho.eq_slice with ⟨_,e2⟩|⟨g,c,e,_⟩
     ·rw[e2] at hkl;simp at hkl
     ·cases e;exact ⟨g,rfl⟩
    subst e1
    have q0:=Zp hU.out.2 (ho.cellAt Pc.len hq (j:=0) rfl)
    have q1:=Zp hU.out.2 (ho.cellAt Pc.len hq (j:=1) rfl)
    have q2:=Zp hU.out.2 (ho.cellAt Pc.len hq (j:=2) rfl)
    simp only[Nat.add_zero] at q0
    have hkk:(k:Int)<(qs.length:Int):=by omega
    have hsl:=((HQP.out k _ _ hq hp).1.slice Z7).below hU.out.2
    have hb1:=Z0J hp
    have hal:Below wr.heap.size wr (wr.alloc (.cells #[.slice qa qn qc,.int .i64 qcame,.int .i64 qsafe] 131)):=(Below.refl _ _).alloc (Nat.le_refl _) _
    have hbl:=Vr ((A.fs f).take k)
    obtain ⟨v',w',hr,hown,hx'⟩:=Y5 (P:=Tryz.prog) 22 22 i0 _ 1 Tryz.underlying22 hi hz0 hz1 hz2 rfl (by omega) Z7 Wk (hU.out.1.alloc _) (hsl.below hal) (by unfold maxLen;omega) (by omega) (by have:=hU.out.2.size;simp;omega)
    rw[←Z2D hp] at hown
    have hB:=Ext.new (hU.out.2.alloc hU.out.2.size (.cells #[.slice qa qn qc,.int .i64 qcame,.int .i64 qsafe] 131)) hx' (fun i hi _ e=>by have:=(hU.out.1.blk i e).1;omega) (by have:=hU.out.2.size;simp;omega)
    obtain ⟨s',hs'⟩:=hown.slv
    subst hs'
    change (Builtin.append_ _ _ _).run _ _=.ok (.slice s'.a s'.n s'.cap) w' at hr
    have HR:=Lib.hid hr
    have HN:=Jh (And.intro hown hB)
    clear ho hU hq hp hsl hb1 hal hbl hr hown hx' hB
    go_wp2_with (at_builtin;refine YT rfl _ _ _ rfl rfl rfl HR.out ?_)
    go_roundg (qs.length - (k+1))
    case measure=>rw[HGG.out];omega
    case rel=>exact ⟨k+1,s',rfl,by omega,rfl,by simp,HN⟩
   ·obtain rfl:k=qs.length:=by omega
    have hown:=hU.out.1
    rw[HQL.out,List.take_length] at hown
    have HN:=Jh (And.intro hown hU.out.2)
    clear hU hown
    go_wp2
    refine bodyPost_ret (results_tmp2 rfl _ _ _) rfl ?_
    exact .inr ⟨f,_,HG.out,rfl,HN.out.1,HN.out.2⟩
end Go.Proofs.YtgmdimbiipemhaaGreatDoor
namespace Go.Proofs
open Go.Shelf
def Tryz.keysF_ren:Go.Shelf.Ren:=⟨fun|7=>80|10=>127|n=>n,fun|23=>115|26=>9|3=>120|28=>142|0=>0|27=>141|33=>119|4=>4|n=>n,fun|n=>n⟩
theorem Tryz.keysF:Go.Proofs.SlLaysZ.n7 Tryz.prog Tryz.keysF_ren:={
 mixed:=by kernel_rfl
 f7:=⟨Tryz.f80.name,by decide,Tryz.func80.trans (congrArg some (by kernel_rfl))⟩
 f10:=⟨Tryz.f127.name,by decide,Tryz.func127.trans (congrArg some (by kernel_rfl))⟩
 t0:=Tryz.underlying0
 a0:=Tryz.isAgg0
 z0:=Tryz.sizeOf0
 v0:=Tryz.zeroValue0
 t4:=Tryz.underlying4
 a4:=Tryz.isAgg4
 z4:=Tryz.sizeOf4
 v4:=Tryz.zeroValue4
 t23:=Tryz.underlying115
 a23:=Tryz.isAgg115
 z23:=Tryz.sizeOf115
 v23:=Tryz.zeroValue115
 t26:=Tryz.underlying9
 a26:=Tryz.isAgg9
 z26:=Tryz.sizeOf9
 v26:=Tryz.zeroValue9
 t27:=Tryz.underlying141
 a27:=Tryz.isAgg141
 z27:=Tryz.sizeOf141
 v27:=Tryz.zeroValue141
 t28:=Tryz.underlying142
 a28:=Tryz.isAgg142
 z28:=Tryz.sizeOf142
 v28:=Tryz.zeroValue142
 t33:=Tryz.underlying119
 a33:=Tryz.isAgg119
 z33:=Tryz.sizeOf119
 v33:=Tryz.zeroValue119 }
def Tryz.sortedF_ren:Go.Shelf.Ren:=⟨fun|6=>79|8=>125|9=>126|11=>167|13=>169|12=>168|23=>192|24=>193|14=>183|15=>184|16=>185|17=>186|18=>187|19=>188|20=>189|21=>190|22=>191|25=>205|26=>206|27=>207|28=>208|29=>209|30=>210|31=>217|n=>n,fun|26=>9|28=>142|24=>56|0=>0|3=>3|37=>189|48=>199|50=>97|4=>4|40=>267|39=>266|45=>215|5=>5|9=>9|51=>283|55=>164|57=>296|58=>297|33=>119|n=>n,fun|n=>n⟩
theorem Tryz.sortedF:Go.Proofs.SlLaysZ.n6 Tryz.prog Tryz.sortedF_ren:={
 mixed:=by kernel_rfl
 f6:=⟨Tryz.f79.name,by decide,Tryz.func79.trans (congrArg some (by kernel_rfl))⟩
 f8:=⟨Tryz.f125.name,by decide,Tryz.func125.trans (congrArg some (by kernel_rfl))⟩
 f11:=⟨Tryz.f167.name,by decide,Tryz.func167.trans (congrArg some (by kernel_rfl))⟩
 t0:=Tryz.underlying0
 a0:=Tryz.isAgg0
 z0:=Tryz.sizeOf0
 v0:=Tryz.zeroValue0
 t24:=Tryz.underlying56
 a24:=Tryz.isAgg56
 z24:=Tryz.sizeOf56
 v24:=Tryz.zeroValue56
 t26:=Tryz.underlying9
 a26:=Tryz.isAgg9
 z26:=Tryz.sizeOf9
 v26:=Tryz.zeroValue9
 t28:=Tryz.underlying142
 a28:=Tryz.isAgg142
 z28:=Tryz.sizeOf142
 v28:=Tryz.zeroValue142
 i26:=by kernel_rfl }
def Tryz.sortF_ren:Go.Shelf.Ren:=⟨fun|6=>126|8=>169|9=>168|19=>192|20=>193|21=>183|22=>184|23=>185|24=>186|25=>187|26=>188|27=>189|28=>190|29=>191|36=>205|31=>206|32=>207|37=>208|38=>209|39=>210|41=>217|n=>n,fun|27=>56|29=>9|3=>3|32=>189|26=>56|0=>0|44=>199|46=>97|4=>4|36=>267|35=>266|41=>215|5=>5|9=>9|53=>283|57=>164|63=>296|64=>297|n=>n,fun|n=>n⟩
theorem Tryz.sortF:Go.Proofs.SlLaysM.n6 Tryz.prog Tryz.sortF_ren:={
 mixed:=by kernel_rfl
 f6:=⟨Tryz.f126.name,by decide,Tryz.func126.trans (congrArg some (by kernel_rfl))⟩
 f8:=Tryz.func169.trans (congrArg some (by kernel_rfl))
 f9:=⟨Tryz.f168.name,by decide,Tryz.func168.trans (congrArg some (by kernel_rfl))⟩
 f19:=Tryz.func192.trans (congrArg some (by kernel_rfl))
 f20:=Tryz.func193.trans (congrArg some (by kernel_rfl))
 f21:=⟨Tryz.f183.name,by decide,Tryz.func183.trans (congrArg some (by kernel_rfl))⟩
 f22:=⟨Tryz.f184.name,by decide,Tryz.func184.trans (congrArg some (by kernel_rfl))⟩
 f23:=⟨Tryz.f185.name,by decide,Tryz.func185.trans (congrArg some (by kernel_rfl))⟩
 f24:=⟨Tryz.f186.name,by decide,Tryz.func186.trans (congrArg some (by kernel_rfl))⟩
 f25:=⟨Tryz.f187.name,by decide,Tryz.func187.trans (congrArg some (by kernel_rfl))⟩
 f26:=⟨Tryz.f188.name,by decide,Tryz.func188.trans (congrArg some (by kernel_rfl))⟩
 f27:=⟨Tryz.f189.name,by decide,Tryz.func189.trans (congrArg some (by kernel_rfl))⟩
 f28:=⟨Tryz.f190.name,by decide,Tryz.func190.trans (congrArg some (by kernel_rfl))⟩
 f29:=⟨Tryz.f191.name,by decide,Tryz.func191.trans (congrArg some (by kernel_rfl))⟩
 f31:=Tryz.func206.trans (congrArg some (by kernel_rfl))
 f32:=Tryz.func207.trans (congrArg some (by kernel_rfl))
 f36:=⟨Tryz.f205.name,by decide,Tryz.func205.trans (congrArg some (by kernel_rfl))⟩
 f37:=⟨Tryz.f208.name,by decide,Tryz.func208.trans (congrArg some (by kernel_rfl))⟩
 f38:=⟨Tryz.f209.name,by decide,Tryz.func209.trans (congrArg some (by kernel_rfl))⟩
 f39:=⟨Tryz.f210.name,by decide,Tryz.func210.trans (congrArg some (by kernel_rfl))⟩
 f41:=⟨Tryz.f217.name,by decide,Tryz.func217.trans (congrArg some (by kernel_rfl))⟩
 t0:=Tryz.underlying0
 a0:=Tryz.isAgg0
 z0:=Tryz.sizeOf0
 v0:=Tryz.zeroValue0
 t3:=Tryz.underlying3
 a3:=Tryz.isAgg3
 z3:=Tryz.sizeOf3
 v3:=Tryz.zeroValue3
 t4:=Tryz.underlying4
 a4:=Tryz.isAgg4
 z4:=Tryz.sizeOf4
 v4:=Tryz.zeroValue4
 t5:=Tryz.underlying5
 a5:=Tryz.isAgg5
 z5:=Tryz.sizeOf5
 v5:=Tryz.zeroValue5
 t9:=Tryz.underlying9
 a9:=Tryz.isAgg9
 z9:=Tryz.sizeOf9
 v9:=Tryz.zeroValue9
 t26:=Tryz.underlying56
 a26:=Tryz.isAgg56
 z26:=Tryz.sizeOf56
 v26:=Tryz.zeroValue56
 t27:=Tryz.underlying56
 a27:=Tryz.isAgg56
 z27:=Tryz.sizeOf56
 v27:=Tryz.zeroValue56
 t29:=Tryz.underlying9
 a29:=Tryz.isAgg9
 z29:=Tryz.sizeOf9
 v29:=Tryz.zeroValue9
 t32:=Tryz.underlying189
 a32:=Tryz.isAgg189
 z32:=Tryz.sizeOf189
 v32:=Tryz.zeroValue189
 t35:=Tryz.underlying266
 a35:=Tryz.isAgg266
 z35:=Tryz.sizeOf266
 v35:=Tryz.zeroValue266
 t36:=Tryz.underlying267
 a36:=Tryz.isAgg267
 z36:=Tryz.sizeOf267
 v36:=Tryz.zeroValue267
 t41:=Tryz.underlying215
 a41:=Tryz.isAgg215
 z41:=Tryz.sizeOf215
 v41:=Tryz.zeroValue215
 t44:=Tryz.underlying199
 a44:=Tryz.isAgg199
 z44:=Tryz.sizeOf199
 v44:=Tryz.zeroValue199
 t46:=Tryz.underlying97
 a46:=Tryz.isAgg97
 z46:=Tryz.sizeOf97
 v46:=Tryz.zeroValue97
 t53:=Tryz.underlying283
 a53:=Tryz.isAgg283
 z53:=Tryz.sizeOf283
 v53:=Tryz.zeroValue283
 t57:=Tryz.underlying164
 a57:=Tryz.isAgg164
 z57:=Tryz.sizeOf164
 v57:=Tryz.zeroValue164
 t63:=Tryz.underlying296
 a63:=Tryz.isAgg296
 z63:=Tryz.sizeOf296
 v63:=Tryz.zeroValue296
 t64:=Tryz.underlying297
 a64:=Tryz.isAgg297
 z64:=Tryz.sizeOf297
 v64:=Tryz.zeroValue297 }
def Tryz.mcloneF_ren:Go.Shelf.Ren:=⟨fun|5=>78|7=>124|n=>n,fun|23=>115|25=>9|3=>120|4=>4|20=>20|n=>n,fun|n=>n⟩
theorem Tryz.mcloneF:Go.Proofs.SlLaysW.n5 Tryz.prog Tryz.mcloneF_ren:={
 mixed:=by kernel_rfl
 f5:=⟨Tryz.f78.name,by decide,Tryz.func78.trans (congrArg some (by kernel_rfl))⟩
 f7:=Tryz.func124.trans (congrArg some (by kernel_rfl))
 t4:=Tryz.underlying4
 a4:=Tryz.isAgg4
 z4:=Tryz.sizeOf4
 v4:=Tryz.zeroValue4
 t20:=Tryz.underlying20
 a20:=Tryz.isAgg20
 z20:=Tryz.sizeOf20
 v20:=Tryz.zeroValue20
 t23:=Tryz.underlying115
 a23:=Tryz.isAgg115
 z23:=Tryz.sizeOf115
 v23:=Tryz.zeroValue115 }
end Go.Proofs
namespace Go.Proofs.YtgmdimbiipemhaaGreatDoor
open Go.RowKit Go.Deep Go.Maps Go.Sort Go.Shelf
def QN (x:ByteArray):List Value:=[.string x]
theorem Tk (x:ByteArray):(QN x).length=1:=rfl
theorem Zj.owns {V:Type} {ev:V→Value} {w:World} {b:Nat} {l:List (ByteArray × V)} (h:Zj Value.string ev w b l) (hs:∀ p∈l,p.1.size≤maxLen) (hl:l.length≤maxLen) :
  ∃ D:DataW Unit,w.ownsMap Tryz.prog 9 (fun _=>some (.nil,[])) b l.length D∧(strKeys D).Perm (l.map fun p=>p.1.data.toList)∧Maps.size D=l.length:=by
 obtain ⟨hn,es,clock,h1,h2,h3,h4,h5⟩:=h
 have hsz:es.size=l.length:=by
  have:=congrArg List.length h2
  simpa using this
 have hrg:∀ x∈es.toList,∃ p∈l,x.key=.string p.1∧WideElems.rd (H:=Unit) Tryz.prog 9 (fun _=>some (.nil,[])) x=some (.string p.1.data.toList,.nil):=fun x hx=>by
  obtain ⟨i,hi⟩:=List.getElem?_of_mem hx
  have hk:=congrArg (fun l:List Value=>l[i]?) h2
  simp only[List.getElem?_map,hi,Option.map_some] at hk
  cases hp:l[i]? with
  | none=>rw[hp] at hk;cases hk
  | some p =>
   rw[hp] at hk
   simp only[Option.map_some,Option.some.injEq] at hk
   refine ⟨p,List.mem_of_getElem? hp,hk,?_⟩
   unfold WideElems.rd
   rw[hk,WideMaps.keyOf_string_mk TK (hs p (List.mem_of_getElem? hp))]
   rfl
 refine ⟨_,⟨es,clock,h1,⟨by omega,⟨h5,?_,?_⟩,fun x hx=>?_⟩,by omega,rfl⟩,?_,?_⟩
 ·rw[List.nodup_iff_pairwise_ne,List.pairwise_map]
  exact h4.imp (fun hlt e=>by omega)
 ·rw[h2]
  refine List.Pairwise.map _ (fun a b hab e=>?_) (List.pairwise_map.1 hn)
  exact hab (by injection e)
 ·obtain ⟨p,_,_,h⟩:=hrg x hx
  exact ⟨_,h⟩
 ·have e1:∀ (xs:List MapEntry) (ps:List (ByteArray × V)),xs.map (·.key)=ps.map (fun p=>Value.string p.1)→(∀ x∈xs,∃ p:ByteArray × V,x.key=.string p.1∧WideElems.rd (H:=Unit) Tryz.prog 9 (fun _=>some (.nil,[])) x=some (.string p.1.data.toList,.nil))→xs.map (WideElems.rg (H:=Unit) Tryz.prog 9 (fun _=>some (.nil,[])))=ps.map (fun p=>(Lit.string p.1.data.toList,.nil)):=by
   intro xs
   induction xs with
   | nil=>intro ps hps _;cases ps with
    | nil=>rfl
    | cons p ps=>simp at hps
   | cons x xs ih =>
    intro ps hps hx
    cases ps with
    | nil=>simp at hps
    | cons p ps =>
     simp only[List.map_cons,List.cons.injEq] at hps ⊢
     obtain ⟨p',hk,hr⟩:=hx x List.mem_cons_self
     refine ⟨?_,ih ps hps.2 (fun y hy=>hx y (List.mem_cons_of_mem _ hy))⟩
     have hpp:p'.1=p.1:=by
      have:=hk.symm.trans hps.1
      injection this
     unfold WideElems.rg
     rw[hr,hpp]
     rfl
  have e2:=e1 es.toList l h2 (fun x hx=>by obtain ⟨p,_,h,h'⟩:=hrg x hx;exact ⟨p,h,h'⟩)
  rw[e2]
  have hp:=WideShapes.sorted_perm (l.map fun p=>(Lit.string p.1.data.toList,(DataW.nil:DataW Unit)))
  have hq:=hp.map (fun q:Lit × DataW Unit=>strOf q.1)
  refine List.Perm.trans hq ?_
  rw[List.map_map]
  exact List.Perm.refl _
 ·simp only[Maps.size]
  rw[(WideShapes.sorted_perm _).length_eq]
  simp[hsz]
theorem Z4p (m:Nat):AnyZ.SortsIn Tryz.prog Tryz.sortedF_ren Fence.wide m :=
 ⟨fun blk off cap ss W hH hblk hsz=>callsIn_wide.2 (AnyM.slices_Sort_string Tryz.sortF blk off cap ss W hH hblk hsz),
  fun p cap W=>callsIn_wide.2 (AnyM.slices_Sort_string_none Tryz.sortF p cap W)⟩
theorem Z6e (mb:Option Nat) (W:World):Calls Tryz.prog 80 #[.map mb] W fun e w'=>e=.returned (.func (.func 127) #[] #[.pointer (some ⟨W.heap.size,0,none⟩)])∧w'=W.alloc (.cells #[.map mb] 115) :=
 callsIn_wide.1 (AnyZ.keys_in Tryz.keysF Fence.wide 5 trivial rfl mb W)
theorem Z4m {H:Type} (b nn:Nat) (D0:DataW H) (R:Value→Option (DataW H × List MemPlace)) (w:World) (hown:w.ownsMap Tryz.prog 9 R b nn D0) (hmax:Maps.size D0≤maxLen) (hbytes:Maps.size D0*16≤140737488355328) :
  Calls Tryz.prog 79 #[.func (.func 127) #[] #[.pointer (some ⟨w.heap.size,0,none⟩)]] (w.alloc (.cells #[.map (some b)] 115)) fun e w'=>∃ (v:Value) (ss:List (List UInt8)),e=.returned v∧ss.Perm (strKeys D0) ∧
   w'.ownsRow (w.alloc (.cells #[.map (some b)] 115)).heap.size 9 1 v ss.length ((ss.mergeSort (fun x y=>decide (x≤y))).map encStr)∧(v=.slice none 0 0↔ss=[])∧Below (w.alloc (.cells #[.map (some b)] 115)).heap.size (w.alloc (.cells #[.map (some b)] 115)) w':=by
 have hbl:=hown.lt
 have hseq:SeqGives Fence.wide 2 Tryz.prog 127 #[.pointer (some ⟨w.heap.size,0,none⟩)] encStr (fun ss=>ss.Perm (strKeys D0)) (Maps.size D0) (w.alloc (.cells #[.map (some b)] 115)) :=
  AnyZ.keys_gives (ρ:=Tryz.keysF_ren) { Tryz.keysF with } Fence.wide _ trivial rfl (by omega) w.heap.size b nn D0 _ (by simp) (by simp) (by
   obtain ⟨es,clock,hb,Ft,hs,hD⟩:=hown
   exact ⟨es,clock,(Below.heap_alloc _ _ b hbl).trans hb,Ft,hs,hD⟩)
 exact callsIn_wide.1 (AnyZ.sorted_in Tryz.sortedF Fence.wide 5 trivial trivial trivial trivial rfl (by omega) (Z4p _) (enters_of Tryz.func126 (by kernel_rfl) rfl) 127 #[.pointer (some ⟨w.heap.size,0,none⟩)] trivial (enters_of Tryz.func127 (by kernel_rfl) rfl) _ _ hmax hbytes _ hseq)
def Z3S (l:List ByteArray):List ByteArray:=((l.map fun n=>n.data.toList).mergeSort (fun x y=>decide (x≤y))).map fun b=>⟨b.toArray⟩
def XX (A:Z2):List ByteArray:=Z3S (A.files.map (·.1))
theorem Z2m (A:Z2):(XX A).Perm (A.files.map (·.1)):=by
 unfold XX Z3S
 refine ((List.mergeSort_perm _ _).map _).trans ?_
 rw[List.map_map]
 rw[show ((fun b:List UInt8=>(⟨b.toArray⟩:ByteArray)) ∘ fun n:ByteArray=>n.data.toList)=id from by funext n;cases n;simp]
 simp
theorem QY (a b c:List UInt8) (h:decide (a≤b)=true) (k:decide (b≤c)=true):decide (a≤c)=true:=by
 rw[decide_eq_true_eq] at *
 exact List.le_trans h k
theorem Z0k (a b:List UInt8):(decide (a≤b) || decide (b≤a))=true:=by
 rw[Bool.or_eq_true,decide_eq_true_eq,decide_eq_true_eq]
 exact List.le_total a b
theorem Z5T {l l':List (List UInt8)} (h:l.Perm l'):l.mergeSort (fun x y=>decide (x≤y))=l'.mergeSort (fun x y=>decide (x≤y)):=by
 have hp:=((List.mergeSort_perm l (fun x y=>decide (x≤y))).trans h).trans (List.mergeSort_perm l' (fun x y=>decide (x≤y))).symm
 refine List.Perm.eq_of_pairwise (fun a b _ _ hab hba=>?_) (List.pairwise_mergeSort QY Z0k l) (List.pairwise_mergeSort QY Z0k l') hp
 rw[decide_eq_true_eq] at hab hba
 exact List.le_antisymm hab hba
theorem Z0G {base:Nat} {w:World} {D:DSh} {A:Z2} (h:Z4 base w D A) (hl:A.files.length≤1000000) :
  Calls Tryz.prog 38 #[.pointer (some ⟨D.pb,0,none⟩)] w fun e w'=>∃ v,e=.returned v∧Own QN 1 9 w.heap.size w' v (XX A)∧Below w.heap.size w w':=by
 have c0:=Joins.cell_of_block h.blk 0
 simp only[List.getElem?_toArray,List.getElem?_cons_zero] at c0
 obtain ⟨D0,hown,hperm,hsize⟩:=h.mfiles.owns (fun p hp=>by have:=(h.ok.inf p.1 p.2 hp).2;unfold maxLen;omega) (by unfold maxLen;omega)
 have HS:=Jh (Z4m D.mf _ D0 _ w hown (by rw[hsize];unfold maxLen;omega) (by rw[hsize];omega))
 have HP:=Lib.hid hperm
 clear h hown hperm hsize
 go_enter Tryz.func38,Tryz.ntmps38
 go_wp2_with fail
 refine (Z6e _ _).mono ?_
 rintro e w1 ⟨rfl,rfl⟩
 go_wp2_with fail
 refine HS.out.mono ?_
 rintro e w2 ⟨v,ss,rfl,hss,hrow,_,hb⟩
 have hB:Below w.heap.size w w2:=((Below.refl _ _).alloc (Nat.le_refl _) _).trans (hb.mono (by simp))
 have hO:Own QN 1 9 w.heap.size w2 v (XX A):=by
  have e1:XX A=(ss.mergeSort (fun x y=>decide (x≤y))).map fun b=>⟨b.toArray⟩:=by
   unfold XX Z3S
   rw[Z5T (hss.trans HP.out),List.map_map]
   rfl
  have e2:(XX A).flatMap QN=(ss.mergeSort (fun x y=>decide (x≤y))).map encStr:=by
   rw[e1,List.flatMap_map]
   induction (ss.mergeSort (fun x y=>decide (x≤y))) with
   | nil=>rfl
   | cons x xs ih=>rw[List.flatMap_cons,ih];rfl
  have e3:(XX A).length=ss.length:=by rw[e1,List.length_map,(List.mergeSort_perm _ _).length_eq]
  refine Own.mono (base:=(w.alloc (.cells #[.map (some D.mf)] 115)).heap.size) ?_ (by simp)
  unfold Own
  rw[e2,e3]
  exact hrow
 have HN:=Jh (And.intro hO hB)
 obtain ⟨s,e9⟩:=hO.slv
 change v=.slice s.a s.n s.cap at e9
 subst e9
 clear hss hrow hb hB hO
 go_wp2
 go_ret
 exact ⟨_,rfl,HN.out.1,HN.out.2⟩
end Go.Proofs.YtgmdimbiipemhaaGreatDoor
namespace Go.Proofs.YtgmdimbiipemhaaGreatDoor
open Go.RowKit Go.Deep
structure OpA where
 kind:Int
 name:ByteArray
 s:ByteArray
 b:Sl
 at_:Int
 names:Int
 keep:Sl
 torn:Int
 bs:List UInt8
 ks:List Bool
def Q3 (x:Bool):List Value:=[.bool x]
def Wg (t:Option TypeId):Prop:=t=none∨t=some 118∨t=some 126∨t=some 3∨t=some 124∨t=some 131
theorem Z4.dtag {base:Nat} {w:World} {D:DSh} {A:Z2} (h:Z4 base w D A) {b:Nat} (hb:XR D A b):Wg (ZX w b):=by
 rcases hb with rfl|rfl|rfl|hb|hb|⟨f,hf,rfl|hb⟩
 ·exact .inr (.inl h.tpb)
 ·exact .inl (YY h.mfiles)
 ·exact .inl (YY h.mbase)
 ·exact .inr (.inr (.inl (Za h.ochg hb)))
 ·exact .inr (.inr (.inr (.inl (Za h.osyn hb))))
 ·exact .inr (.inr (.inr (.inr (.inl (h.file b hf).tag))))
 ·exact .inr (.inr (.inr (.inr (.inr ((h.file f hf).row hb).1))))
def Un (x:OpA) (A:Z2) (c:Int) (A':Z2):Prop :=
 if x.kind=1 then c=Yd A x.name∧((c≠0∧A'=A)∨(c=0∧∃ fb,fb∉A.ids∧A'=Zs ⟨0,x.name,⟨#[]⟩,some fb⟩ (Yq fb A)))
 else if x.kind=2 then (Z5 A.files x.name=none∧c=61∧A'=A)∨(∃ f,Z5 A.files x.name=some f∧1048576<Zu (A.fs f)+x.bs.length∧c=62∧A'=A)∨(∃ f,Z5 A.files x.name=some f∧Zu (A.fs f)+x.bs.length≤1048576∧c=0∧A'=ZU f x.bs A)
 else if x.kind=3 then (Z5 A.files x.name=none∧c=61∧A'=A)∨(∃ f,Z5 A.files x.name=some f∧c=0∧A'=Zt f A)
 else if x.kind=4 then (ZZ x.s=false∧c=63∧A'=A)∨(ZZ x.s=true∧Z5 A.files x.name=none∧c=61∧A'=A)∨(∃ f,ZZ x.s=true∧Z5 A.files x.name=some f∧c=0∧A'=Zs ⟨0,x.s,x.name,some f⟩ A)
 else if x.kind=5 then (Z5 A.files x.name=none∧c=61∧A'=A)∨(∃ f,Z5 A.files x.name=some f∧c=0∧A'=Zs ⟨0,⟨#[]⟩,x.name,none⟩ A)
 else if x.kind=6 then c=0∧A'=YE A
 else c=0∧A'=A
theorem Z3J (c:Chg) (l:List (ByteArray × Nat)):(ZA c l).length≤l.length+1:=by
 have h1:=(TH l c.old).length_le
 unfold ZA
 cases c.f with
 | none=>dsimp only;omega
 | some f=>dsimp only;have:=QI (Xe l c.old) c.name f;omega
theorem Sq (c:Chg) (l:List (ByteArray × Nat)) (h:(l.map (·.1)).Nodup):((ZA c l).map (·.1)).Nodup:=by
 unfold ZA
 cases c.f with
 | none=>exact Tm l c.old h
 | some f=>exact RX _ _ _ (Tm l c.old h)
theorem YC (c:Chg) (l:List (ByteArray × Nat)) (h:(l.map (·.1)).Nodup) (n:ByteArray) :
  Z5 (ZA c l) n=match c.f with|some f=>if n=c.name then some f else if n=c.old then none else Z5 l n|none=>if n=c.old then none else Z5 l n:=by
 have hd:Z5 (Xe l c.old) n=if n=c.old then none else Z5 l n:=by
  by_cases e:n=c.old
  ·rw[if_pos e,e];exact Ti l c.old h
  ·rw[if_neg e];exact Q8 l (fun e'=>e e'.symm)
 unfold ZA
 cases c.f with
 | none=>exact hd
 | some f =>
  dsimp only
  by_cases e:n=c.name
  ·rw[if_pos e,e];exact VD _ _ _
  ·rw[if_neg e,Ut _ _ (fun e'=>e e'.symm)];exact hd
structure Z2.Inj (A:Z2):Prop where
 nd:(A.files.map (·.1)).Nodup
 ids:∀ n f,Z5 A.files n=some f→f∈A.ids
 one:∀ n m f,Z5 A.files n=some f→Z5 A.files m=some f→n=m
 rt:∀ n f,Z5 A.files n=some f→ZZ n=true
theorem Z1n:U2.Inj:=⟨List.nodup_nil,fun n f h=>(by cases h),fun n m f h=>(by cases h),fun n f h=>(by cases h)⟩
theorem Z2.Inj.step {A:Z2} (h:A.Inj) (c:Chg) (hf:∀ f,c.f=some f→(f∈A.ids∧ZZ c.name=true)∧∀ n,Z5 A.files n=some f→n=c.old):(Zs c A).Inj:=by
 have ha:=YC c A.files h.nd
 refine ⟨Sq c A.files h.nd,fun n f hn=>?_,fun n m f hn hm=>?_,fun n f hn=>?_⟩
 ·change Z5 (ZA c A.files) n=some f at hn
  rw[ha] at hn
  cases hc:c.f with
  | none =>
   rw[hc] at hn
   dsimp only at hn
   split at hn
   ·cases hn
   ·exact h.ids n f hn
  | some g =>
   rw[hc] at hn
   dsimp only at hn
   split at hn
   ·cases hn;exact (hf f hc).1.1
   ·split at hn
    ·cases hn
    ·exact h.ids n f hn
 ·change Z5 (ZA c A.files) n=some f at hn
  change Z5 (ZA c A.files) m=some f at hm
  rw[ha] at hn hm
  cases hc:c.f with
  | none =>
   rw[hc] at hn hm
   dsimp only at hn hm
   split at hn
   ·cases hn
   ·split at hm
    ·cases hm
    ·exact h.one n m f hn hm
  | some g =>
   rw[hc] at hn hm
   dsimp only at hn hm
   have key:∀ n,¬ n=c.name→(if n=c.name then some g else if n=c.old then none else Z5 A.files n)=some g→False:=fun n h1 h2=>by
    rw[if_neg h1] at h2
    split at h2
    ·cases h2
    ·rename_i h3;exact h3 ((hf g hc).2 n h2)
   by_cases e1:n=c.name
   ·rw[if_pos e1] at hn
    cases hn
    by_cases e2:m=c.name
    ·rw[e1,e2]
    ·exact (key m e2 hm).elim
   ·by_cases e2:m=c.name
    ·rw[if_pos e2] at hm
     cases hm
     exact (key n e1 hn).elim
    ·rw[if_neg e1] at hn
     rw[if_neg e2] at hm
     split at hn
     ·cases hn
     ·split at hm
      ·cases hm
      ·exact h.one n m f hn hm
 ·change Z5 (ZA c A.files) n=some f at hn
  rw[ha] at hn
  cases hc:c.f with
  | none =>
   rw[hc] at hn
   dsimp only at hn
   split at hn
   ·cases hn
   ·exact h.rt n f hn
  | some g =>
   rw[hc] at hn
   dsimp only at hn
   split at hn
   ·rename_i e;rw[e];exact (hf g hc).1.2
   ·split at hn
    ·cases hn
    ·exact h.rt n f hn
theorem Z2.Inj.born {A:Z2} (h:A.Inj) (fb:Nat):(Yq fb A).Inj:=⟨h.nd,fun n f hn=>List.mem_cons_of_mem _ (h.ids n f hn),h.one,h.rt⟩
theorem Z2.Small.mono {A:Z2} {n m:Nat} (h:A.Small n) (hm:n≤m):A.Small m :=
 ⟨h.now0,by have:=h.now;omega,Nat.le_trans h.chg hm,Nat.le_trans h.syn hm,fun f hf=>Nat.le_trans (h.pcs f hf) (by omega),Nat.le_trans h.fil hm⟩
theorem Z2.Small.step {A:Z2} {n:Nat} (h:A.Small n) (c:Chg):(Zs c A).Small (n+1):=by
 refine ⟨?_,?_,?_,?_,fun f hf=>Nat.le_trans (h.pcs f hf) (by omega),?_⟩
 ·have:=h.now0;simp only[Zs];omega
 ·have:=h.now;simp only[Zs];omega
 ·have:=h.chg;simp[Zs];omega
 ·have:=h.syn;simp only[Zs];omega
 ·have:=h.fil;have:=Z3J c A.files;simp only[Zs];omega
theorem Un.small {x:OpA} {A A':Z2} {c:Int} (h:Un x A c A') {n:Nat} (hs:A.Small n):A'.Small (n+1):=by
 have h0:=hs.mono (Nat.le_succ n)
 have hn0:=hs.now0
 have hn:=hs.now
 unfold Un at h
 split at h
 ·rcases h with ⟨_,⟨_,rfl⟩|⟨_,fb,hfb,rfl⟩⟩
  ·exact h0
  ·refine Z2.Small.step (A:=Yq fb A) ⟨hs.now0,hs.now,hs.chg,hs.syn,fun f hf=>?_,hs.fil⟩ _
   simp only[Yq]
   split
   ·simp
   ·rename_i e
    rcases List.mem_cons.1 hf with e2|hf
    ·exact absurd e2 e
    ·exact hs.pcs f hf
 ·split at h
  ·rcases h with ⟨_,_,rfl⟩|⟨f,_,_,_,rfl⟩|⟨f,hf,_,_,rfl⟩
   ·exact h0
   ·exact h0
   ·refine ⟨by simp only[ZU];omega,by simp only[ZU];omega,h0.chg,h0.syn,fun g hg=>?_,h0.fil⟩
    simp only[ZU]
    split
    ·rename_i e;subst e;have:=hs.pcs g hg;simp;omega
    ·exact h0.pcs g hg
  ·split at h
   ·rcases h with ⟨_,_,rfl⟩|⟨f,_,_,rfl⟩
    ·exact h0
    ·refine ⟨by simp only[Zt];omega,by simp only[Zt];omega,h0.chg,h0.syn,fun g hg=>?_,h0.fil⟩
     simp only[Zt]
     split
     ·rename_i e;subst e;rw[List.length_map];exact h0.pcs g hg
     ·exact h0.pcs g hg
   ·split at h
    ·rcases h with ⟨_,_,rfl⟩|⟨_,_,_,rfl⟩|⟨f,_,hf,_,rfl⟩
     ·exact h0
     ·exact h0
     ·exact hs.step _
    ·split at h
     ·rcases h with ⟨_,_,rfl⟩|⟨f,hf,_,rfl⟩
      ·exact h0
      ·exact hs.step _
     ·split at h
      ·rcases h with ⟨_,rfl⟩
       exact ⟨by simp only[YE];omega,by simp only[YE];omega,h0.chg,by have:=hs.syn;simp[YE];omega,h0.pcs,h0.fil⟩
      ·rcases h with ⟨_,rfl⟩
       exact h0
theorem Qs (k:Int) (ps:List PcA):Zf (ps.map (XL k))=Zf ps:=by
 unfold Zf
 rw[List.flatMap_map]
 congr 1
 funext p
 simp only[XL]
 split <;> rfl
def Ya (c:Int) (n:Nat):Nat:=((if c<0 then -(c+1) else c) % (n:Int)).toNat
theorem V4 (c:Int) {n:Nat} (hn:0<n):Ya c n<n:=by
 unfold Ya
 have h1:=Int.emod_lt_of_pos (if c<0 then -(c+1) else c) (show (0:Int)<n by omega)
 have h2:=Int.emod_nonneg (if c<0 then -(c+1) else c) (show (n:Int)≠0 by omega)
 omega
theorem Rp (c:Int) (n:Nat) (hc1:-9223372036854775808≤c) (hc2:c≤9223372036854775807) (hn:0<n) (hn2:n≤70368744177664) (w:World) :
  Calls Tryz.prog 75 #[.int .i64 c,.int .i64 n] w fun e w'=>e=.returned (.int .i64 (Ya c n))∧w'=w:=by
 have hn0:¬ (n:Int)=0:=by omega
 have hlt:=V4 c hn
 by_cases h0:c<0
 ·have hp:(-(c+1)).tmod (n:Int)=(Ya c n:Int):=by
   unfold Ya
   rw[if_pos h0,Int.tmod_eq_emod_of_nonneg (by omega)]
   have h2:=Int.emod_nonneg (-(c+1)) (show (n:Int)≠0 by omega)
   omega
  have hw1:IntKind.i64.wrap (c+1)=c+1:=IntWalk.i64_in _ (by omega)
  have hw2:IntKind.i64.wrap (-(c+1))=-(c+1):=IntWalk.i64_in _ (by omega)
  go_enter Tryz.func75,Tryz.ntmps75
  go_wp2
  go_ret
  exact ⟨by first|(rw[hp];rfl)|simp[hp]|(simp;omega),rfl⟩
 ·have hp:c.tmod (n:Int)=(Ya c n:Int):=by
   unfold Ya
   rw[if_neg h0,Int.tmod_eq_emod_of_nonneg (by omega)]
   have h2:=Int.emod_nonneg c (show (n:Int)≠0 by omega)
   omega
  go_enter Tryz.func75,Tryz.ntmps75
  go_wp2
  go_ret
  exact ⟨by first|(rw[hp];rfl)|simp[hp]|(simp;omega),rfl⟩
theorem Qm {V:Type} {ev:V→Value} {b:Nat} {l:List (ByteArray × V)} {w:World} (h:Zj Value.string ev w b l) :
  Calls Tryz.prog 78 #[.map (some b)] w fun e w'=>e=.returned (.map (some w.heap.size))∧Zj Value.string ev w' w.heap.size l∧Below w.heap.size w w':=by
 obtain ⟨hn,es,clock,h1,h2⟩:=h
 refine (AnyW.maps_Clone Tryz.mcloneF b es clock w h1).mono ?_
 rintro e w' ⟨rfl,rfl⟩
 exact ⟨rfl,⟨hn,es,clock,(MapKept.heap_alloc w _).1,h2⟩,(Below.refl _ _).alloc (Nat.le_refl _) _⟩
def Yk (syn:List Int) (at_:Int):Int:=syn.foldl (fun s n=>if n≤at_ then n else s) 0
theorem Z3D {syn:List Int} {k:Nat} {n:Int} (at_:Int) (h:syn[k]?=some n):Yk (syn.take (k+1)) at_=if n≤at_ then n else Yk (syn.take k) at_:=by
 unfold Yk
 rw[List.take_add_one,h,Option.toList_some,List.foldl_append]
 rfl
def Yf (chg:List Chg) (safe at_:Int):Nat:=(chg.filter fun c=>decide (safe<c.at_) && decide (c.at_≤at_)).length
theorem Z4h {chg:List Chg} {k:Nat} {c:Chg} (safe at_:Int) (h:chg[k]?=some c):Yf (chg.take (k+1)) safe at_=Yf (chg.take k) safe at_+if safe<c.at_∧c.at_≤at_ then 1 else 0:=by
 unfold Yf
 rw[List.take_add_one,h,Option.toList_some,List.filter_append,List.length_append]
 by_cases h1:safe<c.at_ <;> by_cases h2:c.at_≤at_ <;> simp[h1,h2]
theorem Z1g (chg:List Chg) (safe at_:Int) (k:Nat):Yf (chg.take k) safe at_≤k:=by
 unfold Yf
 exact Nat.le_trans (List.length_filter_le _ _) (by rw[List.length_take];omega)
def YH (safe at_:Int):List Chg→Nat→List (ByteArray × Nat)→List (ByteArray × Nat)
 | [],_,m=>m
 | c :: cs,op,m=>if safe<c.at_ then (if op=0∨at_<c.at_ then m else YH safe at_ cs (op - 1) (ZA c m)) else YH safe at_ cs op (ZA c m)
def Y3 (A:Z2) (at_ names:Int):List (ByteArray × Nat):=YH (Yk A.syn at_) at_ A.chg (Ya names (Yf A.chg (Yk A.syn at_) at_+1)) A.base
def VJ (w:World) (A:Z2) (at_ names:Int) (e:Ending) (w':World):Prop :=
 ∃ m,e=.returned (.map (some m))∧w.heap.size≤m∧Zj Value.string YB w' m (Y3 A at_ names)∧Below w.heap.size w w'
theorem Own.shape {α:Type} {ea:α→List Value} {k:Nat} {e:TypeId} {base:Nat} {w:World} {v:Value} {l:List α} (h:Own ea k e base w v l) (hk:∀ x,(ea x).length=k):∃ a cap,v=.slice a l.length cap∧l.length≤cap∧cap≤maxLen∧(l≠[]→∃ g,a=some ⟨g,0,none⟩∧base≤g∧g<w.heap.size):=by
 obtain ⟨a,cap,e1,h2,h3,_⟩:=h.slice hk
 refine ⟨a,cap,e1,h2,h3,fun hne=>?_⟩
 rcases h.eq_slice with ⟨_,e⟩|⟨g,c,e,hg⟩
 ·exact absurd e hne
 ·rw[e1] at e
  simp only[Value.slice.injEq] at e
  exact ⟨g,e.1,hg⟩
theorem Z2A {base:Nat} {w:World} {D:DSh} {A:Z2} (h:Z4 base w D A) (at_ names:Int) (hn1:-9223372036854775808≤names) (hn2:names≤9223372036854775807) {N:Nat} (hsm:A.Small N) (hN:N≤1000000) :
  Calls Tryz.prog 76 #[.pointer (some ⟨D.pb,0,none⟩),.int .i64 at_,.int .i64 names] w fun e w'=>VJ w A at_ names e w':=by
 have c1:=Joins.cell_of_block h.blk 1
 have c2:=Joins.cell_of_block h.blk 2
 have c3:=Joins.cell_of_block h.blk 3
 simp only[List.getElem?_toArray,List.getElem?_cons_succ,List.getElem?_cons_zero] at c1 c2 c3
 obtain ⟨sa,scap,hvs,hs1,hs2,hsg⟩:=h.osyn.shape ZF
 obtain ⟨ca,ccap,hvc,hc1,hc2,hcg⟩:=h.ochg.shape Chg.len
 rw[hvs] at c3
 rw[hvc] at c2
 have hos:=h.osyn
 have hoc:=h.ochg
 rw[hvs] at hos
 rw[hvc] at hoc
 unfold maxLen at hs2 hc2
 have hls:=hsm.syn
 have hlc:=hsm.chg
 have HOS:=Lib.hid hos
 have HOC:=Lib.hid hoc
 have HSG:=Lib.hid hsg
 have HCG:=Lib.hid hcg
 have HMB:=Lib.hid h.mbase
 clear h hos hoc hsg hcg hvs hvc hsm
 go_enter Tryz.func76,Tryz.ntmps76
 go_wp2_with fail
 go_loopg [7,21] A.syn.length (fun g sv iv wr=>∃ k:Nat,g=A.syn.length - k∧k≤A.syn.length∧sv=.int .i64 (Yk (A.syn.take k) at_)∧iv=.int .i64 k∧wr=w)
 case atStart=>exact ⟨0,by omega,by omega,by simp[Yk],rfl,rfl⟩
 case round =>
  obtain ⟨k,hg,hk,rfl,rfl,ew⟩:=hrel
  have ew':=ew.symm
  subst ew'
  have HG:=Lib.hid hg
  clear hg
  by_cases hkl:k<A.syn.length
  ·obtain ⟨n,hn⟩:∃ n,A.syn[k]?=some n:=⟨_,List.getElem?_eq_getElem hkl⟩
   obtain ⟨g,e1,_⟩:=HSG.out (by intro e;rw[e] at hn;simp at hn)
   subst e1
   have n0:=HOS.out.cellAt ZF hn (j:=0) rfl
   simp only[Nat.add_zero,Nat.mul_one] at n0
   have hkk:(k:Int)<(A.syn.length:Int):=by omega
   have hsn:=Z3D at_ hn
   clear hn
   by_cases hle:n≤at_
   ·rw[if_pos hle] at hsn
    have HSN:=Lib.hid hsn
    clear hsn
    go_wp2_with fail
    go_roundg (A.syn.length - (k+1))
    case measure=>rw[HG.out];omega
    case rel=>exact ⟨k+1,rfl,by omega,by rw[HSN.out],by simp,rfl⟩
   ·rw[if_neg hle] at hsn
    have HSN:=Lib.hid hsn
    clear hsn
    go_wp2_with fail
    go_roundg (A.syn.length - (k+1))
    case measure=>rw[HG.out];omega
    case rel=>exact ⟨k+1,rfl,by omega,by rw[HSN.out],by simp,rfl⟩
  ·obtain rfl:k=A.syn.length:=by omega
   rw[List.take_length]
   obtain ⟨safe,hsafe⟩:∃ s,Yk A.syn at_=s:=⟨_,rfl⟩
   rw[hsafe]
   have HSF:=Lib.hid hsafe
   clear hsafe HG
   go_wp2_with fail
   go_loopg [10,35] A.chg.length (fun g ov iv wr=>∃ k:Nat,g=A.chg.length - k∧k≤A.chg.length∧ov=.int .i64 (Yf (A.chg.take k) safe at_)∧iv=.int .i64 k∧Hid (Below w.heap.size w wr))
   case atStart=>exact ⟨0,by omega,by omega,by simp[Yf],rfl,Jh (Below.refl _ _)⟩
   case round =>
    obtain ⟨k,hg,hk,rfl,rfl,hU⟩:=hrel
    have HG:=Lib.hid hg
    clear hg
    by_cases hkl:k<A.chg.length
    ·obtain ⟨c,hc⟩:∃ c,A.chg[k]?=some c:=⟨_,List.getElem?_eq_getElem hkl⟩
     obtain ⟨g,e1,_⟩:=HCG.out (by intro e;rw[e] at hc;simp at hc)
     subst e1
     obtain ⟨p0,hp0⟩:∃ p0,XO c.f=.pointer p0:=⟨_,rfl⟩
     have q0:=Zp hU.out (HOC.out.cellAt Chg.len hc (j:=0) rfl)
     have q1:=Zp hU.out (HOC.out.cellAt Chg.len hc (j:=1) rfl)
     have q2:=Zp hU.out (HOC.out.cellAt Chg.len hc (j:=2) rfl)
     have q3:=Zp hU.out (HOC.out.cellAt Chg.len hc (j:=3) rfl)
     rw[hp0] at q3
     simp only[Nat.add_zero] at q0
     have hkk:(k:Int)<(A.chg.length:Int):=by omega
     have hsn:=Z4h safe at_ hc
     have hle:=Z1g A.chg safe at_ k
     have HB:Hid (Below w.heap.size w (wr.alloc (.cells #[.int .i64 c.at_,.string c.name,.string c.old,.pointer p0] 126))):=Jh (hU.out.alloc hU.out.size _)
     clear hc hp0 hU
     by_cases h1:safe<c.at_
     ·by_cases h2:c.at_≤at_
      ·rw[if_pos ⟨h1,h2⟩] at hsn
       have HSN:=Lib.hid hsn
       clear hsn
       go_wp2_with fail
       go_roundg (A.chg.length - (k+1))
       case measure=>rw[HG.out];omega
       case rel=>exact ⟨k+1,rfl,by omega,by rw[HSN.out];simp,by simp,HB⟩
      ·rw[if_neg (fun h=>h2 h.2)] at hsn
       have HSN:=Lib.hid hsn
       clear hsn
       go_wp2_with fail
       go_roundg (A.chg.length - (k+1))
       case measure=>rw[HG.out];omega
       case rel=>exact ⟨k+1,rfl,by omega,by rw[HSN.out];simp,by simp,HB⟩
     ·rw[if_neg (fun h=>h1 h.1)] at hsn
      have HSN:=Lib.hid hsn
      clear hsn
      go_wp2_with fail
      go_roundg (A.chg.length - (k+1))
      case measure=>rw[HG.out];omega
      case rel=>exact ⟨k+1,rfl,by omega,by rw[HSN.out];simp,by simp,HB⟩
    ·obtain rfl:k=A.chg.length:=by omega
     rw[List.take_length]
     obtain ⟨op,hop⟩:=Je (Yf A.chg safe at_)
     have hle:=Z1g A.chg safe at_ A.chg.length
     rw[List.take_length,hop] at hle
     rw[hop]
     have HOP:=Lib.hid hop
     have hpk:=Rp names (op+1) hn1 hn2 (by omega) (by omega)
     have hpl:=V4 names (show 0<op+1 by omega)
     have HPK:=Lib.hid hpk
     obtain ⟨pk,hpke⟩:=Je (Ya names (op+1))
     rw[hpke] at hpl
     have HPE:=Lib.hid hpke
     have c1':=Zp hU.out c1
     have c2':=Zp hU.out c2
     have HMB2:=Jh (HMB.out.below hU.out)
     have HB2:=Lib.hid hU.out
     clear hop hpk hpke hU HG
     go_wp2_with fail
     refine (HPK.out wr).mono ?_
     rintro e w2 ⟨rfl,e2⟩
     have e2':=e2.symm
     subst e2'
     rw[HPE.out]
     go_wp2_with fail
     refine (Qm HMB2.out).mono ?_
     rintro e w3 ⟨rfl,hm3,b3⟩
     have c2'':=Zp b3 c2'
     have HM3:=Lib.hid hm3
     have HB3:=Jh (HB2.out.trans (b3.mono HB2.out.size))
     have hmz:w.heap.size≤wr.heap.size:=HB2.out.size
     clear hm3 b3
     obtain ⟨mb,hmb⟩:=Je (wr.heap.size)
     rw[hmb] at HM3 hmz ⊢
     clear hmb
     obtain ⟨fin,hfin⟩:=Je (Y3 A at_ names)
     have HFIN:Hid (YH safe at_ A.chg pk A.base=fin):=Jh (by rw[←hfin];unfold Y3;rw[HSF.out,HOP.out,HPE.out])
     have HFE:=Lib.hid hfin
     clear hfin
     go_wp2_with fail
     go_loopg [10,66] A.chg.length (fun g ov iv wr=>∃ (k o:Nat) (m:List (ByteArray × Nat)),g=A.chg.length - k∧k≤A.chg.length∧o≤op∧ov=.int .i64 o∧iv=.int .i64 k∧Hid (Zj Value.string YB wr mb m∧YH safe at_ (A.chg.drop k) o m=fin∧Below w.heap.size w wr))
     case atStart=>exact ⟨0,pk,A.base,by omega,by omega,by omega,rfl,rfl,Lib.hid ⟨HM3.out,by rw[List.drop_zero];exact HFIN.out,HB3.out⟩⟩
     case round =>
      obtain ⟨k,o,m,hg,hk,hoo,rfl,rfl,hU⟩:=hrel
      have HG:=Lib.hid hg
      clear hg
      by_cases hkl:k<A.chg.length
      ·obtain ⟨c,hc⟩:∃ c,A.chg[k]?=some c:=⟨_,List.getElem?_eq_getElem hkl⟩
       obtain ⟨g,e1,_⟩:=HCG.out (by intro e;rw[e] at hc;simp at hc)
       subst e1
       obtain ⟨p0,hp0⟩:∃ p0,XO c.f=.pointer p0:=⟨_,rfl⟩
       have q0:=Zp hU.out.2.2 (HOC.out.cellAt Chg.len hc (j:=0) rfl)
       have q1:=Zp hU.out.2.2 (HOC.out.cellAt Chg.len hc (j:=1) rfl)
       have q2:=Zp hU.out.2.2 (HOC.out.cellAt Chg.len hc (j:=2) rfl)
       have q3:=Zp hU.out.2.2 (HOC.out.cellAt Chg.len hc (j:=3) rfl)
       rw[hp0] at q3
       simp only[Nat.add_zero] at q0
       have hkk:(k:Int)<(A.chg.length:Int):=by omega
       have hup:=hU.out.2.1
       rw[List.drop_eq_getElem_cons hkl,show A.chg[k]=c from (List.getElem?_eq_some_iff.1 hc).2] at hup
       unfold YH at hup
       obtain ⟨ob,hob⟩:∃ ob:Obj,.cells #[.int .i64 c.at_,.string c.name,.string c.old,.pointer p0] 126=ob:=⟨_,rfl⟩
       have hap:=fun W h=>Z0A c mb m W h
       rw[hp0] at hap
       have HAP:=Lib.hid hap
       have HM:=Jh (hU.out.1.alloc ob)
       have HB:=Jh (hU.out.2.2.alloc hU.out.2.2.size ob)
       have HB0:=Lib.hid hU.out.2.2
       subst hob
       clear hc hp0 hap hU
       by_cases h1:safe<c.at_
       ·rw[if_pos h1] at hup
        by_cases ho:o=0
        ·have hoo2:(o:Int)=0:=by omega
         rw[if_pos (.inl ho)] at hup
         have HN:=Jh (show VJ w A at_ names (.returned (.map (some mb))) _ from ⟨mb,rfl,hmz,by rw[HFE.out,←hup];exact HM.out,HB.out⟩)
         clear hup
         go_wp2
         go_ret
         exact HN.out
        ·have hoo2:¬ (o:Int)=0:=by omega
         by_cases h2:at_<c.at_
         ·have htr:True:=trivial
          rw[if_pos (.inr h2)] at hup
          have HN:=Jh (show VJ w A at_ names (.returned (.map (some mb))) _ from ⟨mb,rfl,hmz,by rw[HFE.out,←hup];exact HM.out,HB.out⟩)
          clear hup
          go_wp2
          go_ret
          exact HN.out
         ·have htr:True:=trivial
          rw[if_neg (by rintro (e|e);exact ho e;exact h2 e)] at hup
          have HUP:=Lib.hid hup
          clear hup
          go_wp2_with fail
          refine (HAP.out _ HM.out).mono ?_
          rintro e w5 ⟨rfl,hm5,hx5⟩
          have HN:Hid (Zj Value.string YB w5 mb (ZA c m)∧YH safe at_ (A.chg.drop (k+1)) (o - 1) (ZA c m)=fin∧Below w.heap.size w w5):=Lib.hid ⟨hm5,HUP.out,Ext.new HB.out hx5 (fun i hi _ e=>by omega) HB.out.size⟩
          clear hm5 hx5
          go_wp2_with fail
          go_roundg (A.chg.length - (k+1))
          case measure=>rw[HG.out];omega
          case rel=>exact ⟨k+1,o - 1,ZA c m,rfl,by omega,by omega,by congr 1;omega,by simp,HN⟩
       ·rw[if_neg h1] at hup
        have HUP:=Lib.hid hup
        clear hup
        go_wp2_with fail
        refine (HAP.out _ HM.out).mono ?_
        rintro e w5 ⟨rfl,hm5,hx5⟩
        have HN:Hid (Zj Value.string YB w5 mb (ZA c m)∧YH safe at_ (A.chg.drop (k+1)) (o) (ZA c m)=fin∧Below w.heap.size w w5):=Lib.hid ⟨hm5,HUP.out,Ext.new HB.out hx5 (fun i hi _ e=>by omega) HB.out.size⟩
        clear hm5 hx5
        go_wp2_with fail
        go_roundg (A.chg.length - (k+1))
        case measure=>rw[HG.out];omega
        case rel=>exact ⟨k+1,o,ZA c m,rfl,by omega,by omega,rfl,by simp,HN⟩
      ·obtain rfl:k=A.chg.length:=by omega
       have hup:=hU.out.2.1
       rw[List.drop_length] at hup
       have hup2:m=fin:=hup
       have HN:=Jh (show VJ w A at_ names (.returned (.map (some mb))) wr from ⟨mb,rfl,hmz,by rw[HFE.out,←hup2];exact hU.out.1,hU.out.2.2⟩)
       clear hU hup hup2
       go_wp2
       go_ret
       exact HN.out
theorem QS (z:Value) (hz:z.cells=#[z]) (n:Nat):(Builtin.zeroCells z.cells n).toList=List.replicate n z:=by
 rw[hz]
 simp[Builtin.zeroCells]
 apply List.ext_getElem
 ·simp
 ·intro i h1 h2
  simp[Nat.mod_one]
theorem Z4q (k:Nat):(List.replicate k (0:UInt8)).flatMap u8c=List.replicate k (.int .u8 0):=by
 induction k with
 | zero=>rfl
 | succ k ih=>rw[List.replicate_succ,List.flatMap_cons,ih];rfl
theorem VG (l:List UInt8):(l.flatMap u8c).length=l.length:=by
 rw[Zq Z7,Nat.mul_one]
theorem Z2j {base:Nat} {w:World} {v:Value} {l:List UInt8} (ty:TypeId) (hown:Own u8c 1 5 base w v l) (k:Nat) (hb:l.length+k≤70368744177664) (hbase:base≤w.heap.size) :
  ∃ v' w',(Builtin.append_ #[22,3] ty #[v,.int .i64 k]).run Tryz.prog w=.ok v' w'∧Own u8c 1 5 base w' v' (l++List.replicate k 0)∧Ext (fun b=>v.ownBlock=some b) w w':=by
 obtain ⟨i,hi,hz0,hz1,hz2⟩:=info_parts Ym
 have ht:Tryz.prog.underlying 22=some (.slice 5):=Tryz.underlying22
 have htn:Tryz.prog.underlying 3=some (.int .i64):=Tryz.underlying3
 have hzc:(Value.int .u8 0).cells=#[.int .u8 0]:=rfl
 have hzl:=QS (.int .u8 0) hzc
 have hwr:IntKind.i64.wrap (k:Int)=k:=by rw[IntKind.wrap_i64];omega
 have hcells:((l++List.replicate k 0).flatMap u8c)=l.flatMap u8c++List.replicate k (.int .u8 0):=by rw[List.flatMap_append,Z4q]
 have hlen:((l++List.replicate k 0).flatMap u8c).length=(l++List.replicate k 0).length*1:=by rw[Zq Z7]
 have hll:(l++List.replicate k (0:UInt8)).length=l.length+k:=by simp
 have grown:∀ cap',l.length+k≤cap'→cap'≤maxLen→Own u8c 1 5 base (w.drew.alloc (.cells ((l.flatMap u8c).toArray++Builtin.zeroCells (Value.int .u8 0).cells k++Builtin.zeroCells (Value.int .u8 0).cells (cap' - (l.length+k))) 5)) (.slice (some ⟨w.heap.size,0,none⟩) (l.length+k) cap') (l++List.replicate k 0):=fun cap' h1 h2=>by
  refine ⟨hlen,.inr ⟨w.heap.size,cap',_,by rw[hll],hbase,heap_alloc_new w.drew _,by rw[hll];exact h1,h2,?_,?_⟩⟩
  ·simp only[Array.size_append,List.size_toArray,size_zeroCells,hzc,VG]
   simp
   omega
  ·rw[hcells,hll]
   simp only[Array.toList_append,List.toList_toArray,hzl]
   rw[List.take_left' (by rw[List.length_append,VG,List.length_replicate,Nat.mul_one])]
 have hxt:∀ o:Obj,Ext (fun b=>v.ownBlock=some b) w (w.drew.alloc o):=fun o=>(Ext.refl _ w).drew.alloc o
 rcases hown.eq_slice with ⟨rfl,rfl⟩|⟨g,cap,rfl,hg1,hg2⟩
 ·by_cases hk:k=0
  ·subst hk
   refine ⟨.slice none 0 0,w,?_,by simpa using hown,Ext.refl _ _⟩
   simp[Builtin.append_,run_underlying ht,run_underlying htn,sizeOf,typeInfo,hi,asInt,asIntOf,IntKind.wrap_i64]
  ·have hr:=Lib.run_append_nil_zeros (P:=Tryz.prog) w 22 3 ty 5 i (.int .u8 0) .i64 .i64 ht htn hi hz0 k (by omega) (by omega) (by omega) (by rw[hz2];simp at hb;omega)
   have hg:=grown (grownCap w k 0 5) (by have:=grownCap_ge w k 0 5;simpa using this) (grownCap_le_maxLen w k 0 5 (by unfold maxLen;simp at hb;omega))
   simp only[List.length_nil,Nat.zero_add,List.flatMap_nil,List.nil_append,Array.empty_append] at hg
   exact ⟨_,_,hr,by simpa using hg,hxt _⟩
 ·have hsl:=hown.slice Z7
  obtain ⟨_,_,e1,hn1,hn2,hcs⟩:=hsl
  simp only[Value.slice.injEq] at e1
  obtain ⟨e1,_,rfl⟩:=e1
  have hcell:∀ j u,(l.flatMap u8c)[j]?=some u→w.cell? ((⟨g,0,none⟩:Addr).add j)=some u:=World.ownsRow.cells (g:=g) hown rfl
  by_cases hroom:l.length+k≤cap
  ·obtain ⟨h1,h2⟩:=hown
   rcases h2 with ⟨e3,_⟩|⟨g',cap',cur,e3,hb',hg',hn',hm',hs',ht'⟩
   ·cases e3
   ·cases e3
    have hnews:∀ u∈List.replicate k (Value.int .u8 0),u.oneCell'=true:=fun u hu=>by rw[List.eq_of_mem_replicate hu];rfl
    have hst:=run_storeCells_at Tryz.prog g (l.length*i.size) 5 (List.replicate k (Value.int .u8 0)) 0 cur w hg' (by rw[hz1];simp;omega) hnews
    simp only[Nat.add_zero] at hst
    refine ⟨.slice (some ⟨g,0,none⟩) (l.length+k) cap,w.setRow g (cur.toList.take (l.length*i.size)++List.replicate k (Value.int .u8 0)++cur.toList.drop (l.length*i.size+(List.replicate k (Value.int .u8 0)).length)).toArray,?_,?_,?_⟩
    ·have hneg:¬ ((k:Int)<0):=by omega
     have h48:¬ (281474976710656<(k:Int)*(i.bytes:Int)):=by rw[hz2];omega
     by_cases hk0:k=0
     ·subst hk0
      have e5:w.setRow g (cur.toList.take (l.length*i.size)++List.replicate 0 (Value.int .u8 0)++cur.toList.drop (l.length*i.size+(List.replicate 0 (Value.int .u8 0)).length)).toArray=w:=by
       simp only[List.replicate_zero,List.append_nil,List.length_nil,Nat.add_zero,List.take_append_drop,Array.toArray_toList]
       exact setRow_self w g cur 5 (0,0) hg'
      rw[e5]
      simp[Builtin.append_,run_underlying ht,run_underlying htn,sizeOf,typeInfo,hi,asInt,asIntOf,IntKind.wrap_i64,hn1,storeCells]
     ·have hne:¬ (k*i.size=0):=by rw[hz1];omega
      simp[Builtin.append_,run_underlying ht,run_underlying htn,sizeOf,typeInfo,hi,asInt,asIntOf,hwr,hneg,h48,hroom,hne,zeroValue,hz0,Addr.add_lit,hzl,hst]
    ·refine ⟨hlen,.inr ⟨g,cap,_,by rw[hll],hb',setRow_heap w g cur _ 5 _ hg',by rw[hll];exact hroom,hm',?_,?_⟩⟩
     ·simp only[List.size_toArray,List.length_append,List.length_take,List.length_drop,Array.length_toList,List.length_replicate]
      rw[hz1]
      omega
     ·rw[hcells,hll,hz1]
      simp only[List.toList_toArray]
      rw[←ht',Nat.mul_one]
      have hcl:cur.toList.length=cur.size:=by simp
      rw[List.take_left' (by rw[List.length_append,List.length_take,List.length_replicate];omega)]
    ·exact ⟨rfl,rfl,rfl,by simp,fun b _ hb=>setRow_other w g b _ (fun e=>hb (by simp[Value.ownBlock,e]))⟩
  ·have hf:=run_firstCells_some (P:=Tryz.prog) w.drew i.size l.length ⟨g,0,none⟩ l.length cap (l.flatMap u8c) (by rw[hz1,VG,Nat.mul_one]) (by simpa using hcell)
   have hr:=Lib.run_append_grow_zeros (P:=Tryz.prog) w 22 3 ty 5 i (.int .u8 0) .i64 .i64 ht htn hi hz0 (some ⟨g,0,none⟩) l.length cap (l.flatMap u8c) hf k (by omega) (by omega) (by omega) (by omega) (by rw[hz2];omega) (growslice_fits (by omega) (by rw[hz2];omega))
   have hg:=grown (grownCap w (l.length+k) cap 5) (grownCap_ge w _ _ _) (grownCap_le_maxLen w _ _ _ (by unfold maxLen;omega))
   exact ⟨_,_,hr,hg,hxt _⟩
structure WD where
 out:List UInt8
 fin:Nat
 n:Nat
def Ze (at_:Int) (ks:List Bool) (torn:Int) (s:WD) (p:PcA):WD :=
 if at_<p.came then s
 else if p.safe≠0∧p.safe≤at_ then ⟨s.out++p.bs,(s.out++p.bs).length,s.n⟩
 else if ks[s.n]?=some true then ⟨s.out++p.bs,s.out.length+Ya torn (p.bs.length+1),s.n+1⟩
 else ⟨s.out++List.replicate p.bs.length 0,s.fin,s.n+1⟩
def Xz (at_:Int) (ks:List Bool) (torn:Int) (ps:List PcA):WD:=ps.foldl (Ze at_ ks torn) ⟨[],0,0⟩
def YW (at_:Int) (ks:List Bool) (torn:Int) (ps:List PcA):List UInt8:=(Xz at_ ks torn ps).out.take (Xz at_ ks torn ps).fin
theorem Qn {at_ torn:Int} {ks:List Bool} {ps:List PcA} {k:Nat} {p:PcA} (h:ps[k]?=some p):Xz at_ ks torn (ps.take (k+1))=Ze at_ ks torn (Xz at_ ks torn (ps.take k)) p:=by
 unfold Xz
 rw[List.take_add_one,h,Option.toList_some,List.foldl_append]
 rfl
theorem SU {at_ torn:Int} {ks:List Bool} {s:WD} (p:PcA) (h:s.fin≤s.out.length):(Ze at_ ks torn s p).fin≤(Ze at_ ks torn s p).out.length∧(Ze at_ ks torn s p).out.length≤s.out.length+p.bs.length∧(Ze at_ ks torn s p).n≤s.n+1:=by
 have hp:=V4 torn (show 0<p.bs.length+1 by omega)
 unfold Ze
 split
 ·exact ⟨h,by omega,by omega⟩
 ·split
  ·exact ⟨Nat.le_refl _,by simp,by simp⟩
  ·split
   ·exact ⟨by simp;omega,by simp,by simp⟩
   ·exact ⟨by simp;omega,by simp,by simp⟩
theorem Z1S (at_ torn:Int) (ks:List Bool) (ps:List PcA):∀ k,(Xz at_ ks torn (ps.take k)).fin≤(Xz at_ ks torn (ps.take k)).out.length∧(Xz at_ ks torn (ps.take k)).out.length≤Zu (ps.take k)∧(Xz at_ ks torn (ps.take k)).n≤k
 | 0=>by simp[Xz]
 | k+1=>by
  have ih:=Z1S at_ torn ks ps k
  cases h:ps[k]? with
  | none =>
   have:ps.take (k+1)=ps.take k:=by rw[List.take_add_one,h,Option.toList_none,List.append_nil]
   rw[this]
   exact ⟨ih.1,ih.2.1,by omega⟩
  | some p =>
   rw[Qn h]
   have:=SU (at_:=at_) (torn:=torn) (ks:=ks) p ih.1
   refine ⟨this.1,?_,by omega⟩
   rw[List.take_add_one,h,Option.toList_some,Vf]
   omega
theorem Own.takeN {base:Nat} {w:World} {a:Option Addr} {cap:Nat} {l:List UInt8} (h:Own u8c 1 5 base w (.slice a l.length cap) l) (m:Nat) (hm:m≤l.length):Own u8c 1 5 base w (.slice a m cap) (l.take m):=by
 have hl:(l.take m).length=m:=by rw[List.length_take];omega
 obtain ⟨h1,h2⟩:=h
 refine ⟨by rw[Zq Z7],?_⟩
 rcases h2 with ⟨e,e2⟩|⟨g,cap',cur,e,hb,hg,hn,hmx,hs,ht⟩
 ·simp only[Value.slice.injEq] at e
  obtain ⟨rfl,h0,rfl⟩:=e
  have hm0:m=0:=by omega
  subst hm0
  exact .inl ⟨rfl,by simp⟩
 ·simp only[Value.slice.injEq] at e
  obtain ⟨rfl,_,rfl⟩:=e
  refine .inr ⟨g,cap,cur,by rw[hl],hb,hg,by rw[hl];omega,hmx,hs,?_⟩
  rw[hl,Nat.mul_one]
  have h3:(l.take m).flatMap u8c=(l.flatMap u8c).take m:=by
   conv=>rhs;rw[←List.take_append_drop m l]
   rw[List.flatMap_append,List.take_left' (by rw[VG,hl])]
  rw[h3,←ht,List.take_take,Nat.mul_one]
  congr 1
  omega
def Z1s (w:World) (at_:Int) (ks:List Bool) (torn:Int) (ps:List PcA) (e:Ending) (w':World):Prop :=
 ∃ v,e=.returned v∧Own u8c 1 5 w.heap.size w' v (YW at_ ks torn ps)∧Below w.heap.size w w'
theorem Z5M {base:Nat} {w:World} {f:Nat} {vr vk:Value} {ps:List PcA} (h:Xr base w f vr ps) (at_:Int) (ks:List Bool) (torn:Int) (hk:Z0 Q3 1 w vk ks) (ht1:-9223372036854775808≤torn) (ht2:torn≤9223372036854775807) (hsz:Zu ps≤1048576) (hlen:ps.length≤1000000) :
  Calls Tryz.prog 77 #[.pointer (some ⟨f,0,none⟩),.int .i64 at_,vk,.int .i64 torn] w fun e w'=>Z1s w at_ ks torn ps e w':=by
 obtain ⟨i0,hi,hz0,hz1,hz2⟩:=info_parts Ym
 obtain ⟨hbf,hfb,qs,hqo,hql,hqp⟩:=h
 obtain ⟨va,vcap,rfl,_,hvm,hvg⟩:=hqo.shape Pc.len
 obtain ⟨ka,kc,rfl,hkc,hkm,hkk⟩:=hk
 have f0:=Joins.cell_of_block hfb 0
 simp only[List.getElem?_toArray,List.getElem?_cons_succ,List.getElem?_cons_zero] at f0
 have hlq:qs.length≤1000000:=by omega
 unfold maxLen at hvm hkm
 have HQO:=Lib.hid hqo
 have HQP:=Lib.hid hqp
 have HQL:=Lib.hid hql
 have HKK:=Lib.hid hkk
 have HVG:=Lib.hid hvg
 clear hfb hqo hqp hql hkk hlen hvg
 go_enter Tryz.func77,Tryz.ntmps77
 go_wp2_with fail
 go_loopg [9,10,11,19] qs.length (fun g vv ev nv iv wr=>∃ (k:Nat) (s:Sl) (S:WD),g=qs.length - k∧k≤qs.length∧vv=.slice s.a s.n s.cap∧ev=.int .i64 S.fin∧nv=.int .i64 S.n∧iv=.int .i64 k∧S.n≤k∧S.fin≤S.out.length∧S.out.length≤Zu (ps.take k)∧Hid (S=Xz at_ ks torn (ps.take k)∧Own u8c 1 5 w.heap.size wr (.slice s.a s.n s.cap) S.out∧Below w.heap.size w wr))
 case atStart=>exact ⟨0,⟨none,0,0⟩,⟨[],0,0⟩,by omega,by omega,rfl,rfl,rfl,rfl,by simp,by simp,by simp,Lib.hid ⟨by simp[Xz],Own.nil,Below.refl _ _⟩⟩
 case round =>
  obtain ⟨k,⟨sa,sn,sc⟩,⟨out,fin,n⟩,hg,hk,rfl,rfl,rfl,rfl,hnk,hfo,hos,hU⟩:=hrel
  dsimp only at hU hnk hfo hos ⊢
  have HG:=Lib.hid hg
  clear hg
  obtain ⟨esn⟩:sn=out.length:=by
   obtain ⟨_,_,e,_⟩:=hU.out.2.1.slice Z7
   simp only[Value.slice.injEq] at e
   exact e.2.1
  by_cases hkl:k<qs.length
  ·obtain ⟨q,hq⟩:∃ q,qs[k]?=some q:=⟨_,List.getElem?_eq_getElem hkl⟩
   obtain ⟨⟨pb,pcm,psf⟩,hp⟩:∃ p,ps[k]?=some p:=⟨_,List.getElem?_eq_getElem (by rw[←HQL.out];exact hkl)⟩
   obtain ⟨⟨qa,qn,qc⟩,qcame,qsafe⟩:=q
   obtain ⟨pown,pcame,psafe⟩:=HQP.out k _ _ hq hp
   dsimp only at pcame psafe
   obtain ⟨g,e1,_⟩:=HVG.out (by intro e;rw[e] at hq;simp at hq)
   subst e1
   have q0:=Zp hU.out.2.2 (HQO.out.cellAt Pc.len hq (j:=0) rfl)
   have q1:=Zp hU.out.2.2 (HQO.out.cellAt Pc.len hq (j:=1) rfl)
   have q2:=Zp hU.out.2.2 (HQO.out.cellAt Pc.len hq (j:=2) rfl)
   simp only[Nat.add_zero] at q0
   have hkk:(k:Int)<(qs.length:Int):=by omega
   have hst:=Qn (at_:=at_) (torn:=torn) (ks:=ks) hp
   rw[←hU.out.1] at hst
   have hbnd:=Z0J hp
   have hbsz:=Qb ps (k+1)
   have hok:=SU (at_:=at_) (torn:=torn) (ks:=ks) (s:=⟨out,fin,n⟩) ⟨pb,pcm,psf⟩ hfo
   obtain ⟨eqn⟩:qn=pb.length:=by
    obtain ⟨_,_,e,_⟩:=pown.slice Z7
    simp only[Sl.val,Value.slice.injEq] at e
    exact e.2.1
   have pcame':=pcame.symm
   have psafe':=psafe.symm
   subst pcame' psafe'
   clear pcame psafe
   obtain ⟨ob,hob⟩:∃ ob:Obj,.cells #[.slice qa pb.length qc,.int .i64 pcm,.int .i64 psf] 131=ob:=⟨_,rfl⟩
   have hB:=hU.out.2.2.alloc hU.out.2.2.size ob
   have hO:=hU.out.2.1.alloc ob
   have hsz2:Zu (ps.take (k+1))=Zu (ps.take k)+pb.length:=by rw[List.take_add_one,hp,Option.toList_some,Vf]
   have HST:Hid (∀ S',Ze at_ ks torn ⟨out,fin,n⟩ ⟨pb,pcm,psf⟩=S'→S'=Xz at_ ks torn (ps.take (k+1))∧S'.n≤k+1∧S'.fin≤S'.out.length∧S'.out.length≤Zu (ps.take (k+1))):=Jh (fun S' e=>by
    rw[e] at hst hok
    dsimp only at hok
    exact ⟨hst.symm,by omega,hok.1,by omega⟩)
   have hba:=Below.refl wr.heap.size wr |>.alloc (Nat.le_refl _) ob
   obtain ⟨va2,wa,hra,howna,hxa⟩:=Y5 (P:=Tryz.prog) 22 22 i0 _ 1 Tryz.underlying22 hi hz0 hz1 hz2 rfl (by omega) Z7 Wk hO (((pown.slice Z7).below hU.out.2.2).below hba) (by unfold maxLen;omega) (by omega) (by have:=hB.size;omega)
   have hBa:=Ext.new hB hxa (fun i hi _ e=>by have:=(hO.blk i e).1;omega) hB.size
   obtain ⟨⟨aa,an,ac⟩,ea⟩:=howna.slv
   change va2=.slice aa an ac at ea
   subst ea
   obtain ⟨ean⟩:an=(out++pb).length:=by
    obtain ⟨_,_,e,_⟩:=howna.slice Z7
    simp only[Value.slice.injEq] at e
    exact e.2.1
   rw[List.length_append] at hra howna
   obtain ⟨vz2,wz,hrz,hownz,hxz⟩:=Z2j 22 hO pb.length (by omega) (by have:=hB.size;omega)
   have hBz:=Ext.new hB hxz (fun i hi _ e=>by have:=(hO.blk i e).1;omega) hB.size
   obtain ⟨⟨za,zn,zc⟩,ez⟩:=hownz.slv
   change vz2=.slice za zn zc at ez
   subst ez
   obtain ⟨ezn⟩:zn=(out++List.replicate pb.length (0:UInt8)).length:=by
    obtain ⟨_,_,e,_⟩:=hownz.slice Z7
    simp only[Value.slice.injEq] at e
    exact e.2.1
   rw[List.length_append,List.length_replicate] at hrz hownz
   have hpk:=Rp torn (pb.length+1) ht1 ht2 (by omega) (by omega)
   have hpkl:=V4 torn (show 0<pb.length+1 by omega)
   obtain ⟨pk,hpke⟩:=Je (Ya torn (pb.length+1))
   rw[hpke] at hpkl
   have hpb:pb.length≤1048576:=by omega
   have hob1:out.length≤1048576:=by omega
   have HRA:=Lib.hid hra
   have HNA:=Jh (And.intro howna hBa)
   have HRZ:=Lib.hid hrz
   have HNZ:=Jh (And.intro hownz hBz)
   have HPK:=Lib.hid hpk
   have HPE:=Lib.hid hpke
   have HN0:=Jh (And.intro hO hB)
   have hbk:∀ b o u,wr.cell? ⟨b,o,none⟩=some u→(wr.alloc ob).cell? ⟨b,o,none⟩=some u:=fun b o u h=>Zo h _
   have HBK:=Lib.hid hbk
   have HU:=Lib.hid hU.out.2.2
   subst hob
   clear hst hok hbnd hbsz hsz2 hba hra howna hxa hBa hrz hownz hxz hBz hpk hpke hO hB hU hq hp pown hos hfo hbk
   by_cases hca:at_<pcm
   ·have htr:True:=trivial
    have HSS:=Jh (HST.out ⟨out,fin,n⟩ (by unfold Ze;rw[if_pos hca]))
    clear HRA HRZ HPK
    go_wp2_with fail
    go_roundg (qs.length - (k+1))
    case measure=>rw[HG.out];omega
    case rel=>exact ⟨k+1,⟨sa,out.length,sc⟩,⟨out,fin,n⟩,rfl,by omega,rfl,by simp,by simp,by simp,HSS.out.2.1,HSS.out.2.2.1,HSS.out.2.2.2,Lib.hid ⟨HSS.out.1,HN0.out.1,HN0.out.2⟩⟩
   ·by_cases hs0:psf=0
    ·subst hs0
     by_cases hnk2:n<ks.length
     ·obtain ⟨kb,hkb⟩:∃ kb,ks[n]?=some kb:=⟨_,List.getElem?_eq_getElem hnk2⟩
      obtain ⟨bk,ok2,ek,hkc2⟩:=HKK.out (by intro e;rw[e] at hkb;simp at hkb)
      subst ek
      have kk0:=Zp HU.out (hkc2 n kb hkb 0 _ rfl)
      simp only[Nat.add_zero,Nat.mul_one] at kk0
      have hbkl:=Zh kk0
      have hnk3:(n:Int)<(ks.length:Int):=by omega
      clear hkc2
      cases kb with
      | true =>
       have HSS:=Jh (HST.out ⟨out++pb,out.length+pk,n+1⟩ (by unfold Ze;rw[if_neg hca,if_neg (fun h=>h.1 rfl),if_pos hkb];rw[HPE.out]))
       clear HRZ
       go_wp2_with fail
       refine (HPK.out _).mono ?_
       rintro e w4 ⟨rfl,e4⟩
       have e4':=e4.symm
       subst e4'
       rw[HPE.out]
       go_wp2_with (at_builtin;refine Lib.wpList_append_run _ rfl _ _ _ _ rfl _ _ rfl rfl _ _ HRA.out ?_)
       go_roundg (qs.length - (k+1))
       case measure=>rw[HG.out];omega
       case rel=>exact ⟨k+1,⟨aa,out.length+pb.length,ac⟩,⟨out++pb,out.length+pk,n+1⟩,rfl,by omega,rfl,by simp,by simp,by simp,HSS.out.2.1,HSS.out.2.2.1,HSS.out.2.2.2,Lib.hid ⟨HSS.out.1,HNA.out.1,HNA.out.2⟩⟩
      | false =>
       have HSS:=Jh (HST.out ⟨out++List.replicate pb.length 0,fin,n+1⟩ (by unfold Ze;rw[if_neg hca,if_neg (fun h=>h.1 rfl),if_neg (by rw[hkb];simp)]))
       clear HRA HPK
       go_wp2_with (at_builtin;refine Lib.wpList_append_run _ rfl _ _ _ _ rfl _ _ rfl rfl _ _ HRZ.out ?_)
       go_roundg (qs.length - (k+1))
       case measure=>rw[HG.out];omega
       case rel=>exact ⟨k+1,⟨za,out.length+pb.length,zc⟩,⟨out++List.replicate pb.length 0,fin,n+1⟩,rfl,by omega,rfl,by simp,by simp,by simp,HSS.out.2.1,HSS.out.2.2.1,HSS.out.2.2.2,Lib.hid ⟨HSS.out.1,HNZ.out.1,HNZ.out.2⟩⟩
     ·have hnk3:¬ (n:Int)<(ks.length:Int):=by omega
      have HSS:=Jh (HST.out ⟨out++List.replicate pb.length 0,fin,n+1⟩ (by unfold Ze;rw[if_neg hca,if_neg (fun h=>h.1 rfl),if_neg (by rw[List.getElem?_eq_none (show ks.length≤n by omega)];simp)]))
      clear HRA HPK
      go_wp2_with (at_builtin;refine Lib.wpList_append_run _ rfl _ _ _ _ rfl _ _ rfl rfl _ _ HRZ.out ?_)
      go_roundg (qs.length - (k+1))
      case measure=>rw[HG.out];omega
      case rel=>exact ⟨k+1,⟨za,out.length+pb.length,zc⟩,⟨out++List.replicate pb.length 0,fin,n+1⟩,rfl,by omega,rfl,by simp,by simp,by simp,HSS.out.2.1,HSS.out.2.2.1,HSS.out.2.2.2,Lib.hid ⟨HSS.out.1,HNZ.out.1,HNZ.out.2⟩⟩
    ·by_cases hsa:psf≤at_
     ·have htr:True:=trivial
      have HSS:=Jh (HST.out ⟨out++pb,(out++pb).length,n⟩ (by unfold Ze;rw[if_neg hca,if_pos ⟨hs0,hsa⟩]))
      clear HRZ HPK
      go_wp2_with (at_builtin;refine Lib.wpList_append_run _ rfl _ _ _ _ rfl _ _ rfl rfl _ _ HRA.out ?_)
      go_roundg (qs.length - (k+1))
      case measure=>rw[HG.out];omega
      case rel=>exact ⟨k+1,⟨aa,out.length+pb.length,ac⟩,⟨out++pb,(out++pb).length,n⟩,rfl,by omega,rfl,by simp,by simp,by simp,HSS.out.2.1,HSS.out.2.2.1,HSS.out.2.2.2,Lib.hid ⟨HSS.out.1,HNA.out.1,HNA.out.2⟩⟩
     ·have htr:True:=trivial
      by_cases hnk2:n<ks.length
      ·obtain ⟨kb,hkb⟩:∃ kb,ks[n]?=some kb:=⟨_,List.getElem?_eq_getElem hnk2⟩
       obtain ⟨bk,ok2,ek,hkc2⟩:=HKK.out (by intro e;rw[e] at hkb;simp at hkb)
       subst ek
       have kk0:=Zp HU.out (hkc2 n kb hkb 0 _ rfl)
       simp only[Nat.add_zero,Nat.mul_one] at kk0
       have hbkl:=Zh kk0
       have hnk3:(n:Int)<(ks.length:Int):=by omega
       clear hkc2
       cases kb with
       | true =>
        have HSS:=Jh (HST.out ⟨out++pb,out.length+pk,n+1⟩ (by unfold Ze;rw[if_neg hca,if_neg (fun h=>hsa h.2),if_pos hkb];rw[HPE.out]))
        clear HRZ
        go_wp2_with fail
        refine (HPK.out _).mono ?_
        rintro e w4 ⟨rfl,e4⟩
        have e4':=e4.symm
        subst e4'
        rw[HPE.out]
        go_wp2_with (at_builtin;refine Lib.wpList_append_run _ rfl _ _ _ _ rfl _ _ rfl rfl _ _ HRA.out ?_)
        go_roundg (qs.length - (k+1))
        case measure=>rw[HG.out];omega
        case rel=>exact ⟨k+1,⟨aa,out.length+pb.length,ac⟩,⟨out++pb,out.length+pk,n+1⟩,rfl,by omega,rfl,by simp,by simp,by simp,HSS.out.2.1,HSS.out.2.2.1,HSS.out.2.2.2,Lib.hid ⟨HSS.out.1,HNA.out.1,HNA.out.2⟩⟩
       | false =>
        have HSS:=Jh (HST.out ⟨out++List.replicate pb.length 0,fin,n+1⟩ (by unfold Ze;rw[if_neg hca,if_neg (fun h=>hsa h.2),if_neg (by rw[hkb];simp)]))
        clear HRA HPK
        go_wp2_with (at_builtin;refine Lib.wpList_append_run _ rfl _ _ _ _ rfl _ _ rfl rfl _ _ HRZ.out ?_)
        go_roundg (qs.length - (k+1))
        case measure=>rw[HG.out];omega
        case rel=>exact ⟨k+1,⟨za,out.length+pb.length,zc⟩,⟨out++List.replicate pb.length 0,fin,n+1⟩,rfl,by omega,rfl,by simp,by simp,by simp,HSS.out.2.1,HSS.out.2.2.1,HSS.out.2.2.2,Lib.hid ⟨HSS.out.1,HNZ.out.1,HNZ.out.2⟩⟩
      ·have hnk3:¬ (n:Int)<(ks.length:Int):=by omega
       have HSS:=Jh (HST.out ⟨out++List.replicate pb.length 0,fin,n+1⟩ (by unfold Ze;rw[if_neg hca,if_neg (fun h=>hsa h.2),if_neg (by rw[List.getElem?_eq_none (show ks.length≤n by omega)];simp)]))
       clear HRA HPK
       go_wp2_with (at_builtin;refine Lib.wpList_append_run _ rfl _ _ _ _ rfl _ _ rfl rfl _ _ HRZ.out ?_)
       go_roundg (qs.length - (k+1))
       case measure=>rw[HG.out];omega
       case rel=>exact ⟨k+1,⟨za,out.length+pb.length,zc⟩,⟨out++List.replicate pb.length 0,fin,n+1⟩,rfl,by omega,rfl,by simp,by simp,by simp,HSS.out.2.1,HSS.out.2.2.1,HSS.out.2.2.2,Lib.hid ⟨HSS.out.1,HNZ.out.1,HNZ.out.2⟩⟩
  ·obtain rfl:k=qs.length:=by omega
   have hS:=hU.out.1
   rw[HQL.out,List.take_length] at hS
   have hN:Hid (Z1s w at_ ks torn ps (.returned (.slice sa fin sc)) wr):=Lib.hid ⟨_,rfl,by unfold YW;rw[←hS];exact hU.out.2.1.takeN fin hfo,hU.out.2.2⟩
   obtain ⟨_,_,e9,hsc,hsm,_⟩:=hU.out.2.1.slice Z7
   simp only[Value.slice.injEq] at e9
   obtain ⟨rfl,_,rfl⟩:=e9
   unfold maxLen at hsm
   have hfo2:(fin:Int)≤(out.length:Int):=by omega
   have hfo3:(fin:Int)≤(sc:Int):=by omega
   clear hU hS
   go_wp2
   go_ret
   exact hN.out
section
variable {base:Nat} {w w':World} {D:DSh} {A:Z2}
theorem Z4.bornFull (h:Z4 base w D A) (hb:Below w.heap.size w w') {fb:Nat} {v:Value} {ps:List PcA} (hf:Xr base w' fb v ps) (h1:w.heap.size≤fb) (h2:∀ b,v.ownBlock=some b→w.heap.size≤b) (hz:Zu ps≤1048576) :
  Z4 base w' { D with rv:=fun g=>if g=fb then v else D.rv g } { A with ids:=fb :: A.ids,fs:=fun g=>if g=fb then ps else A.fs g }:=by
 have h0:=h.below hb
 have hn:∀ f∈A.ids,f≠fb:=fun f hf=>by have:=(h.file f hf).lt;omega
 refine { h0 with file:=fun g hg=>?_,apart:=fun g k hg hk hne b hb hb'=>?_,ok:=?_ }
 ·rcases List.mem_cons.1 hg with rfl|hg
  ·dsimp only
   rw[if_pos rfl,if_pos rfl]
   exact hf
  ·dsimp only
   rw[if_neg (hn g hg),if_neg (hn g hg)]
   exact h0.file g hg
 ·dsimp only at hb hb'
  have old:∀ g∈A.ids,∀ b,(D.rv g).ownBlock=some b→b<w.heap.size:=fun g hg b hb=>Wu ((h.file g hg).row hb).1
  rcases List.mem_cons.1 hg with e1|hg1
  ·rw[if_pos e1] at hb
   rcases List.mem_cons.1 hk with e2|hk1
   ·exact hne (e1.trans e2.symm)
   ·rw[if_neg (hn k hk1)] at hb'
    have:=h2 b hb;have:=old k hk1 b hb';omega
  ·rw[if_neg (hn g hg1)] at hb
   rcases List.mem_cons.1 hk with e2|hk1
   ·rw[if_pos e2] at hb'
    have:=h2 b hb';have:=old g hg1 b hb;omega
   ·rw[if_neg (hn k hk1)] at hb'
    exact h.apart g k hg1 hk1 hne b hb hb'
 ·refine ⟨fun n f hf=>⟨List.mem_cons_of_mem _ (h.ok.inf n f hf).1,(h.ok.inf n f hf).2⟩,fun n f hf=>⟨List.mem_cons_of_mem _ (h.ok.inb n f hf).1,(h.ok.inb n f hf).2⟩,fun c hc f hf=>⟨List.mem_cons_of_mem _ (h.ok.inc c hc f hf).1,(h.ok.inc c hc f hf).2⟩,fun g hg=>?_⟩
  rcases List.mem_cons.1 hg with rfl|hg
  ·dsimp only
   rw[if_pos rfl]
   exact hz
  ·dsimp only
   rw[if_neg (hn g hg)]
   exact h.ok.sz g hg
theorem Z4.bases (h:Z4 base w D A) (hx:Ext (·=D.mb) w w') {bs:List (ByteArray × Nat)} (hm:Zj Value.string YB w' D.mb bs) (hok:∀ n f,(n,f)∈bs→f∈A.ids∧n.size≤8):Z4 base w' D { A with base:=bs }:=by
 have key:∀ b T,ZX w b=some T→¬ b=D.mb:=fun b T ht=>Zz ht (YY h.mbase) (by simp)
 exact {
  blk:=(hx.block _ h.lpb (key _ _ h.tpb)).trans h.blk
  lo:=h.lo
  lof:=h.lof
  lob:=h.lob
  ne:=h.ne
  mfiles:=h.mfiles.ext hx (fun e=>h.ne e)
  mbase:=hm
  ochg:=h.ochg.ext hx (fun b hb=>key _ _ (Za h.ochg hb))
  osyn:=h.osyn.ext hx (fun b hb=>key _ _ (Za h.osyn hb))
  file:=fun f hf=>(h.file f hf).ext hx (key _ _ (h.file f hf).tag) (fun b hb=>key _ _ ((h.file f hf).row hb).1) (fun b hb ht=>key _ _ ht)
  apart:=h.apart
  ok:=⟨h.ok.inf,hok,h.ok.inc,h.ok.sz⟩ }
theorem Z4.reMap (h:Z4 base w D A) {mf:Nat} {files:List (ByteArray × Nat)} (hm:Zj Value.string YB w mf files) (hl:base≤mf) (hne:mf≠D.mb) (hok:∀ n f,(n,f)∈files→f∈A.ids∧n.size≤8) :
  Z4 base (w.setCell ⟨D.pb,0,none⟩ (.map (some mf))) { D with mf:=mf } { A with files:=files }:=by
 have hx:=Yt w D.pb 0 (.map (some mf))
 have key:∀ b T,ZX w b=T→T≠some 118→¬ b=D.pb:=fun b T ht hT=>Zz ht h.tpb hT
 exact {
  blk:=by
   have:=Joins.block_setCell (i:=0) h.blk (.map (some mf))
   exact this
  lo:=h.lo
  lof:=hl
  lob:=h.lob
  ne:=hne
  mfiles:=hm.ext hx (key _ _ (YY hm) (by decide))
  mbase:=h.mbase.ext hx (key _ _ (YY h.mbase) (by decide))
  ochg:=h.ochg.ext hx (fun b hb=>key _ _ (Za h.ochg hb) (by decide))
  osyn:=h.osyn.ext hx (fun b hb=>key _ _ (Za h.osyn hb) (by decide))
  file:=fun f hf=>(h.file f hf).ext hx (key _ _ (h.file f hf).tag (by decide)) (fun b hb=>key _ _ ((h.file f hf).row hb).1 (by decide)) (fun b hb ht=>key _ _ ht (by decide))
  apart:=h.apart
  ok:=⟨hok,h.ok.inb,h.ok.inc,h.ok.sz⟩ }
end
structure V6 (A:Z2) (m:List (ByteArray × Nat)) (at_:Int) (ks:List Bool) (torn:Int) (A':Z2):Prop where
 chg:A'.chg=[]
 syn:A'.syn=[]
 now:A'.now=0
 perm:(A'.base.map (·.1)).Perm (m.map (·.1))
 has:∀ n f,(n,f)∈m→∃ fb,Z5 A'.base n=some fb∧fb∈A'.ids∧A'.fs fb=[⟨YW at_ ks torn (A.fs f),0,-1⟩]
 vals:∀ n fb,Z5 A'.base n=some fb→fb∈A'.ids
 one:∀ n n' fb,Z5 A'.base n=some fb→Z5 A'.base n'=some fb→n=n'
 ln:∀ f∈A'.ids,(A'.fs f).length≤1
 pc:∀ f∈A'.ids,∃ bs,A'.fs f=[⟨bs,0,-1⟩]
theorem Z7b (A:Z2) (at_:Int) (ks:List Bool) (torn:Int):V6 A [] at_ ks torn U2:=⟨rfl,rfl,rfl,List.Perm.refl _,fun n f h=>(by cases h),fun n f h=>(by cases h),fun n n' fb h=>(by cases h),fun f h=>(by cases h),fun f h=>(by cases h)⟩
def Vy (n:ByteArray) (fb:Nat) (bs:List UInt8) (A':Z2):Z2:={ A' with ids:=fb :: A'.ids,fs:=fun g=>if g=fb then [⟨bs,0,-1⟩] else A'.fs g,base:=YN A'.base n fb }
theorem V6.step {A A':Z2} {m:List (ByteArray × Nat)} {at_ torn:Int} {ks:List Bool} (h:V6 A m at_ ks torn A') {n:ByteArray} {f fb:Nat} (hn:n∉m.map (·.1)) (hfb:fb∉A'.ids):V6 A (m++[(n,f)]) at_ ks torn (Vy n fb (YW at_ ks torn (A.fs f)) A'):=by
 have hnb:n∉A'.base.map (·.1):=fun e=>hn (h.perm.subset e)
 have hi:ZT A'.base n=none:=by
  cases hi:ZT A'.base n with
  | none=>rfl
  | some i =>
   obtain ⟨v,e,_⟩:=VO hi
   exact absurd (List.mem_map.2 ⟨(n,v),List.mem_of_getElem? e,rfl⟩) hnb
 have hg:∀ k,Z5 (YN A'.base n fb) k=if k=n then some fb else Z5 A'.base k:=fun k=>by
  by_cases e:k=n
  ·subst e;rw[if_pos rfl];exact VD _ _ _
  ·rw[if_neg e];exact Ut _ _ (fun e'=>e e'.symm)
 refine ⟨h.chg,h.syn,h.now,?_,fun k g hk=>?_,fun k b hk=>?_,fun k k' b hk hk'=>?_,fun g hg=>?_,fun g hg=>?_⟩
 ·show ((YN A'.base n fb).map (·.1)).Perm _
  rw[VP hi,List.map_append,List.map_append]
  exact h.perm.append_right _
 ·simp only[Vy]
  rcases List.mem_append.1 hk with hk|hk
  ·obtain ⟨b,h1,h2,h3⟩:=h.has k g hk
   have hkn:k≠n:=fun e=>hn (List.mem_map.2 ⟨(k,g),hk,e⟩)
   have hbf:b≠fb:=fun e=>hfb (by rw[←e];exact h2)
   exact ⟨b,by rw[hg,if_neg hkn];exact h1,List.mem_cons_of_mem _ h2,by rw[if_neg hbf];exact h3⟩
  ·simp at hk
   obtain ⟨rfl,rfl⟩:=hk
   exact ⟨fb,by rw[hg,if_pos rfl],List.mem_cons_self,by rw[if_pos rfl]⟩
 ·simp only[Vy] at hk ⊢
  rw[hg] at hk
  split at hk
  ·cases hk;exact List.mem_cons_self
  ·exact List.mem_cons_of_mem _ (h.vals k b hk)
 ·simp only[Vy] at hk hk'
  rw[hg] at hk hk'
  split at hk
  ·rename_i e1
   cases hk
   split at hk'
   ·rename_i e2;rw[e1,e2]
   ·exact absurd (h.vals k' fb hk') hfb
  ·split at hk'
   ·cases hk'
    exact absurd (h.vals k fb hk) hfb
   ·exact h.one k k' b hk hk'
 ·simp only[Vy] at hg ⊢
  split
  ·simp
  ·rename_i e
   exact h.ln g ((List.mem_cons.1 hg).resolve_left e)
 ·simp only[Vy] at hg ⊢
  split
  ·exact ⟨_,rfl⟩
  ·rename_i e
   exact h.pc g ((List.mem_cons.1 hg).resolve_left e)
end Go.Proofs.YtgmdimbiipemhaaGreatDoor
namespace Go.Proofs.YtgmdimbiipemhaaGreatDoor
open Go.RowKit
section
variable {K V:Type} [DecidableEq K] {ek:K→Value} {ev:V→Value}
def Yo (ek:K→Value) (ev:V→Value) (w:World) (r b:Nat) (l left:List (K × V)) (cur:Option (K × V)):Prop :=
 (l.map (·.1)).Nodup∧∃ es clock seen,w.heap[b]?=some (.map es clock)∧w.heap[r]?=some (.mapIter (some b) clock seen clock) ∧
  es.toList.map (·.key)=l.map (fun p=>ek p.1)∧es.toList.map (·.val)=l.map (fun p=>ev p.2) ∧
  es.toList.Pairwise (fun x y=>x.born<y.born)∧(∀ e∈es.toList,e.born<clock) ∧
  ((es.toList.zip l).filter (fun x=>!seen.contains x.1.born)).map (·.2)=left ∧
  (∀ p,cur=some p→∃ e,(e,p)∈es.toList.zip l∧seen.back?=some e.born)
theorem Yo.of_blocks {w w':World} {r b:Nat} {l left:List (K × V)} {cur:Option (K × V)} (h:Yo ek ev w r b l left cur) (hr:w'.heap[r]?=w.heap[r]?) (hb:w'.heap[b]?=w.heap[b]?):Yo ek ev w' r b l left cur:=by
 obtain ⟨hn,es,clock,seen,h1,h2,h3⟩:=h
 exact ⟨hn,es,clock,seen,hb.trans h1,hr.trans h2,h3⟩
theorem Yo.lt {w:World} {r b:Nat} {l left:List (K × V)} {cur:Option (K × V)} (h:Yo ek ev w r b l left cur):r<w.heap.size∧b<w.heap.size:=by
 obtain ⟨hn,es,clock,seen,h1,h2,h3⟩:=h
 exact ⟨(Array.getElem?_eq_some_iff.1 h2).1,(Array.getElem?_eq_some_iff.1 h1).1⟩
theorem Yo.ext {S:Nat→Prop} {w w':World} {r b:Nat} {l left:List (K × V)} {cur:Option (K × V)} (h:Yo ek ev w r b l left cur) (hx:Ext S w w') (h1:¬ S r) (h2:¬ S b):Yo ek ev w' r b l left cur :=
 h.of_blocks (hx.block r h.lt.1 h1) (hx.block b h.lt.2 h2)
theorem Z3r {es:List MapEntry} {l:List (K × V)} (h:es.map (·.key)=l.map (fun p=>ek p.1)):(es.zip l).map (·.2)=l:=by
 have:=congrArg List.length h
 simp only[List.length_map] at this
 rw[List.map_snd_zip]
 omega
theorem Zj.range {P:Program} {w:World} {b:Nat} {l:List (K × V)} {mt kt et:TypeId} (h:Zj ek ev w b l) (hm:P.underlying mt=some (.map kt et)) :
  ∃ w',(Instr.range mt (.map (some b))).run P w=.ok (.pointer (some ⟨w.heap.size,0,none⟩)) w'∧Yo ek ev w' w.heap.size b l l none∧Below w.heap.size w w'∧w'.heap.size=w.heap.size+1:=by
 have hlt:=h.lt
 obtain ⟨hn,es,clock,h1,h2,h3,h4,h5⟩:=h
 refine ⟨w.alloc (.mapIter (some b) clock #[] clock),?_,⟨hn,es,clock,#[],?_,?_,h2,h3,h4,h5,?_,?_⟩,(Below.refl _ _).alloc (Nat.le_refl _) _,by simp⟩
 ·simp[Instr.range,run_underlying hm,Y8 h1,Result.andThen]
 ·rw[Below.heap_alloc _ _ _ hlt];exact h1
 ·show (w.heap.push _)[w.heap.size]?=_
  simp
 ·rw[List.filter_eq_self.2 (by simp)]
  exact Z3r h2
 ·intro p hp;cases hp
theorem Z44 {es:List MapEntry} {l:List (K × V)} (h:es.map (·.key)=l.map (fun p=>ek p.1)):(es.zip l).map (·.1)=es:=by
 have:=congrArg List.length h
 simp only[List.length_map] at this
 rw[List.map_fst_zip]
 omega
theorem Z1G {es:List MapEntry} {l:List (K × V)} (hp:es.Pairwise (fun x y=>x.born<y.born)):(es.zip l).Pairwise (fun x y=>x.1.born<y.1.born):=by
 induction es generalizing l with
 | nil=>simp
 | cons e es ih =>
  cases l with
  | nil=>simp
  | cons q l =>
   rw[List.zip_cons_cons]
   rw[List.pairwise_cons] at hp ⊢
   refine ⟨fun y hy=>hp.1 y.1 (List.of_mem_zip hy).1,ih hp.2⟩
theorem Yo.next1 {P:Program} {w:World} {r b:Nat} {l left:List (K × V)} {cur:Option (K × V)} {ty:TypeId} (h:Yo ek ev w r b l left cur) (hrb:r≠b) :
  (left=[]∧(Instr.next (.pointer (some ⟨r,0,none⟩)) false ty).run P w=.ok (.tuple #[.bool false]) w) ∨
  ∃ i p w',left[i]?=some p∧(Instr.next (.pointer (some ⟨r,0,none⟩)) false ty).run P w=.ok (.tuple #[.bool true,ek p.1,ev p.2]) w'∧Yo ek ev w' r b l (left.eraseIdx i) (some p)∧Ext (·=r) w w'∧w'.heap.size=w.heap.size:=by
 have hlt:=h.lt
 obtain ⟨hn,es,clock,seen,h1,h2,h3,h4,h5,h6,h7,h8⟩:=h
 have hz:=Z44 h3
 have hgr:(getObj r).run P w=.ok (.mapIter (some b) clock seen clock) w:=by simp[getObj,Sem.run,h2]
 have hgb:(getObj b).run P w=.ok (.map es clock) w:=Y8 h1
 have hold:(es.filter fun e=>!seen.contains e.born).filter (fun e=>decide (e.born<clock))=es.filter fun e=>!seen.contains e.born:=by
  rw[Array.filter_eq_self]
  intro e he
  simp only[decide_eq_true_eq]
  exact h6 e (by simpa using (Array.mem_filter.1 he).1)
 have hnew:(es.filter fun e=>!seen.contains e.born).filter (fun e=>decide (e.born≥clock))=#[]:=by
  rw[Array.filter_eq_empty_iff]
  intro e he
  simp only[decide_eq_true_eq]
  have:=h6 e (by simpa using (Array.mem_filter.1 he).1)
  omega
 have hall:(!seen.isEmpty && !es.isEmpty && es.all fun e=>decide (e.born≥clock))=false:=by
  cases hes:es.isEmpty with
  | true=>simp
  | false =>
   simp only[Bool.not_false,Bool.and_true]
   rw[Bool.and_eq_false_iff]
   right
   have h0:0<es.size:=by
    rw[Array.isEmpty_eq_false_iff] at hes
    exact Array.size_pos_iff.2 hes
   have:=h6 es[0] (by simp)
   cases hq:es.all fun e=>decide (e.born≥clock) with
   | false=>rfl
   | true =>
    rw[Array.all_eq_true] at hq
    have:=hq 0 h0
    simp at this
    omega
 have hleft:left.map (fun p=>p)=left:=List.map_id' _
 generalize hF:(es.toList.zip l).filter (fun x=>!seen.contains x.1.born)=F at h7
 have hFes:(es.filter fun e=>!seen.contains e.born).toList=F.map (·.1):=by
  rw[Array.toList_filter,←hF]
  conv=>lhs;rw[←hz]
  rw[List.filter_map]
  rfl
 by_cases hemp:left=[]
 ·left
  refine ⟨hemp,?_⟩
  have hFnil:F=[]:=by rw[hemp] at h7;exact List.map_eq_nil_iff.1 h7
  have he:es.filter (fun e=>!seen.contains e.born)=#[]:=by
   apply Array.toList_inj.1
   rw[hFes,hFnil]
   rfl
  simp only[Instr.next,Sem.run_bind,hgr,Result.andThen_ok,hgb,hall,Bool.false_eq_true,if_false,Sem.run_pure]
  rw[hold,hnew,he]
  simp[Question.forced]
 ·right
  have hne:F≠[]:=fun e=>hemp (by rw[←h7,e];rfl)
  have hpos:0<F.length:=List.length_pos_iff.2 hne
  have hemp2:(es.filter fun e=>!seen.contains e.born).isEmpty=false:=by
   rw[Array.isEmpty_eq_false_iff]
   intro e
   have:=congrArg Array.toList e
   rw[hFes] at this
   exact hne (List.map_eq_nil_iff.1 this)
  have key:∀ i (hi:i<F.length) (w0:World),w0.heap=w.heap→w0.os=w.os→w0.tape=w.tape→w0.output=w.output →
    ∃ p w',left[i]?=some p∧(do setObj r (.mapIter (some b) clock (seen.push (F[i]'hi).1.born) clock);pure (Value.tuple #[.bool true,(F[i]'hi).1.key,(F[i]'hi).1.val]):Sem Value).run P w0=.ok (.tuple #[.bool true,ek p.1,ev p.2]) w'∧Yo ek ev w' r b l (left.eraseIdx i) (some p)∧Ext (·=r) w w'∧w'.heap.size=w.heap.size:=by
   intro i hi w0 g1 g2 g3 g4
   obtain ⟨e,p,hep⟩:∃ e p,F[i]'hi=(e,p):=⟨_,_,rfl⟩
   rw[hep]
   have hmem:(e,p)∈es.toList.zip l:=by
    have:(e,p)∈F:=by rw[←hep];exact List.getElem_mem hi
    rw[←hF] at this
    exact (List.mem_filter.1 this).1
   obtain ⟨q,hq⟩:=List.getElem?_of_mem hmem
   rw[List.getElem?_zip_eq_some] at hq
   have hk:e.key=ek p.1:=by
    have:=congrArg (fun l:List Value=>l[q]?) h3
    simpa [hq.1,hq.2] using this
   have hv:e.val=ev p.2:=by
    have:=congrArg (fun l:List Value=>l[q]?) h4
    simpa [hq.1,hq.2] using this
   have hFi:F[i]?=some (e,p):=by rw[List.getElem?_eq_getElem hi,hep]
   have hr0:w0.heap[r]?=some (.mapIter (some b) clock seen clock):=by rw[g1];exact h2
   refine ⟨p,{ w0 with heap:=w0.heap.setIfInBounds r (.mapIter (some b) clock (seen.push e.born) clock) },?_,?_,?_,⟨g2,g3,g4,by simp[g1],fun k hk' hkr=>?_⟩,by simp[g1]⟩
   ·rw[←h7,List.getElem?_map,hFi];rfl
   ·have:(setObj r (.mapIter (some b) clock (seen.push e.born) clock)).run P w0=.ok () { w0 with heap:=w0.heap.setIfInBounds r (.mapIter (some b) clock (seen.push e.born) clock) }:=by simp[setObj,Sem.run,hr0]
    simp only[Sem.run_bind,this,Result.andThen_ok,Sem.run_pure,hk,hv]
   ·refine ⟨hn,es,clock,seen.push e.born,?_,?_,h3,h4,h5,h6,?_,?_⟩
    ·show (w0.heap.setIfInBounds r _)[b]?=_
     rw[Array.getElem?_setIfInBounds_ne hrb,g1];exact h1
    ·show (w0.heap.setIfInBounds r _)[r]?=_
     rw[Array.getElem?_setIfInBounds_self_of_lt (by rw[g1];exact hlt.1)]
    ·have e1:(es.toList.zip l).filter (fun x=>!(seen.push e.born).contains x.1.born)=F.filter (fun x=>!(x.1.born == e.born)):=by
      rw[←hF,List.filter_filter]
      refine List.filter_congr fun x _=>?_
      simp only[Array.contains_push,Bool.not_or]
      rw[Bool.and_comm]
     have hpw:F.Pairwise (fun x y=>x.1.born<y.1.born):=by rw[←hF];exact (Z1G h5).filter _
     rw[e1,ChangeMaps.filter_eq_eraseIdx (fun x:MapEntry × (K × V)=>x.1.born == e.born) F i (e,p) hFi (by simp) (hpw.imp (fun {x y} hxy ⟨a,c⟩=>by simp at a c;omega)),ChangeMaps.map_eraseIdx,h7]
    ·intro p' hp'
     cases hp'
     exact ⟨e,hmem,by simp⟩
   ·show (w0.heap.setIfInBounds r _)[k]?=_
    rw[Array.getElem?_setIfInBounds_ne (fun e=>hkr e.symm),g1]
  have hsz:((es.filter fun (e:MapEntry)=>!seen.contains e.born).map some).size=F.length:=by
   have:=congrArg List.length hFes
   rw[Array.size_map]
   rw[←Array.length_toList,hFes,List.length_map]
  have hget:∀ i (hi:i<F.length),((es.filter fun (e:MapEntry)=>!seen.contains e.born).map some)[i]?=some (some (F[i]'hi).1):=by
   intro i hi
   rw[Array.getElem?_map,←Array.getElem?_toList,hFes,List.getElem?_map,List.getElem?_eq_getElem hi]
   rfl
  have hrun:∀ i (hi:i<F.length) w0,(choose (.mapNext F.length)).run P w=.ok i w0→(Instr.next (.pointer (some ⟨r,0,none⟩)) false ty).run P w =
    (do setObj r (.mapIter (some b) clock (seen.push (F[i]'hi).1.born) clock);pure (Value.tuple #[.bool true,(F[i]'hi).1.key,(F[i]'hi).1.val]):Sem Value).run P w0:=by
   intro i hi w0 hc
   simp only[Instr.next,Sem.run_bind,hgr,Result.andThen_ok,hgb,hall,Bool.false_eq_true,if_false,Sem.run_pure]
   rw[hold,hnew,hemp2]
   simp only[Bool.false_eq_true,if_false,Array.empty_append,Array.append_empty]
   rw[hsz,hc,Result.andThen_ok,hget i hi]
   simp only[Sem.run_bind,Sem.run_pure]
  by_cases hforced:F.length≤1
  ·obtain ⟨p,w',k1,k2,k3⟩:=key 0 hpos w rfl rfl rfl rfl
   refine ⟨0,p,w',k1,?_,k3⟩
   rw[←k2]
   exact hrun 0 hpos w (by rw[run_choose_drew,if_pos (by simp[Question.forced,hforced])])
  ·obtain ⟨p,w',k1,k2,k3⟩:=key (w.tape w.drawn (.mapNext F.length) % F.length) (Nat.mod_lt _ hpos) w.drew rfl rfl rfl rfl
   refine ⟨_,p,w',k1,?_,k3⟩
   rw[←k2]
   exact hrun _ (Nat.mod_lt _ hpos) w.drew (by rw[run_choose_drew,if_neg (by simp[Question.forced];omega)];rfl)
theorem Yo.next {P:Program} {w:World} {r b:Nat} {l left:List (K × V)} {cur:Option (K × V)} (h:Yo ek ev w r b l left cur) (hrb:r≠b) :
  (left=[]∧∀ ty,(Instr.next (.pointer (some ⟨r,0,none⟩)) false ty).run P w=.ok (.tuple #[.bool false]) w) ∨
  ∃ i p w',left[i]?=some p∧(∀ ty,(Instr.next (.pointer (some ⟨r,0,none⟩)) false ty).run P w=.ok (.tuple #[.bool true,ek p.1,ev p.2]) w')∧Yo ek ev w' r b l (left.eraseIdx i) (some p)∧Ext (·=r) w w'∧w'.heap.size=w.heap.size:=by
 rcases h.next1 (P:=P) (ty:=0) hrb with ⟨h1,h2⟩|⟨i,p,w',h1,h2,h3⟩
 ·exact .inl ⟨h1,fun _=>h2⟩
 ·exact .inr ⟨i,p,w',h1,fun _=>h2,h3⟩
theorem Yo.entry {P:Program} {w:World} {r b:Nat} {l left:List (K × V)} {p:K × V} (h:Yo ek ev w r b l left (some p)) :
  (Instr.entry (.pointer (some ⟨r,0,none⟩))).run P w=.ok (.tuple #[ek p.1,ev p.2]) w:=by
 obtain ⟨hn,es,clock,seen,h1,h2,h3,h4,h5,h6,h7,h8⟩:=h
 obtain ⟨e,hmem,hback⟩:=h8 p rfl
 obtain ⟨q,hq⟩:=List.getElem?_of_mem hmem
 rw[List.getElem?_zip_eq_some] at hq
 have hk:e.key=ek p.1:=by
  have:=congrArg (fun l:List Value=>l[q]?) h3
  simpa [hq.1,hq.2] using this
 have hv:e.val=ev p.2:=by
  have:=congrArg (fun l:List Value=>l[q]?) h4
  simpa [hq.1,hq.2] using this
 have hgr:(getObj r).run P w=.ok (.mapIter (some b) clock seen clock) w:=by simp[getObj,Sem.run,h2]
 have hgb:(getObj b).run P w=.ok (.map es clock) w:=Y8 h1
 have hfind:es.find? (fun x=>x.born == e.born)=some e:=by
  rw[←Array.find?_toList]
  rw[List.find?_eq_some_iff_getElem]
  obtain ⟨hq',hqe⟩:=List.getElem?_eq_some_iff.1 hq.1
  refine ⟨by simp,q,hq',hqe,fun j hj=>?_⟩
  have hj':j<es.toList.length:=by omega
  have:=List.pairwise_iff_getElem.1 h5 j q hj' hq' hj
  rw[hqe] at this
  simp
  simp at this
  omega
 simp[Instr.entry,hgr,hgb,hback,hfind,hk,hv,Result.andThen]
end
end Go.Proofs.YtgmdimbiipemhaaGreatDoor
namespace Go.Proofs.YtgmdimbiipemhaaGreatDoor
open Go.RowKit Go.Deep
theorem Z21 {safe at_:Int} {n:ByteArray} {g:Nat}:∀ {cs:List Chg} {op:Nat} {m:List (ByteArray × Nat)},(n,g)∈YH safe at_ cs op m→(n,g)∈m∨∃ c∈cs,n=c.name∧c.f=some g
 | [],_,_,h=>.inl h
 | c :: cs,op,m,h=>by
  unfold YH at h
  have key:∀ {op'},(n,g)∈YH safe at_ cs op' (ZA c m)→(n,g)∈m∨∃ c'∈c :: cs,n=c'.name∧c'.f=some g:=fun h=>by
   rcases Z21 h with h|⟨c',h1,h2⟩
   ·rcases Qq h with h|h
    ·exact .inl h
    ·exact .inr ⟨c,List.mem_cons_self,h⟩
   ·exact .inr ⟨c',List.mem_cons_of_mem _ h1,h2⟩
  split at h
  ·split at h
   ·exact .inl h
   ·exact key h
  ·exact key h
theorem Z3W {A:Z2} (h:A.Ok) {at_ names:Int} {n:ByteArray} {f:Nat} (hm:(n,f)∈Y3 A at_ names):f∈A.ids∧n.size≤8:=by
 unfold Y3 at hm
 rcases Z21 hm with hm|⟨c,hc,rfl,hf⟩
 ·exact h.inb n f hm
 ·exact h.inc c hc f hf
theorem Own.single {α:Type} {ea:α→List Value} {k:Nat} {e:TypeId} {base g:Nat} {w:World} {x:α} (hk:∀ x,(ea x).length=k) (hb:w.heap[g]?=some (.cells (ea x).toArray e (0,0))) (hg:base≤g):Own ea k e base w (.slice (some ⟨g,0,none⟩) 1 1) [x]:=by
 refine ⟨by simp[hk],.inr ⟨g,1,(ea x).toArray,rfl,hg,hb,Nat.le_refl _,by unfold maxLen;omega,by simp[hk],?_⟩⟩
 simp[hk]
 rw[List.take_of_length_le (by rw[hk];exact Nat.le_refl _)]
theorem Tc {K V:Type} [DecidableEq K] {ek:K→Value} {ev:V→Value} {K2 V2:Type} [DecidableEq K2] {ek2:K2→Value} {ev2:V2→Value} {w:World} {r b b2:Nat} {l left:List (K × V)} {cur:Option (K × V)} {l2:List (K2 × V2)} (h:Yo ek ev w r b l left cur) (k:Zj ek2 ev2 w b2 l2):r≠b2:=by
 rintro rfl
 obtain ⟨hn,es,clock,seen,h1,h2,_⟩:=h
 obtain ⟨_,es2,cl2,h3,_⟩:=k
 rw[h2] at h3
 cases h3
theorem Z5C {K V:Type} [DecidableEq K] {ek:K→Value} {ev:V→Value} {w:World} {r b:Nat} {l left:List (K × V)} {cur:Option (K × V)} (h:Yo ek ev w r b l left cur):ZX w r=none:=by
 obtain ⟨hn,es,clock,seen,h1,h2,_⟩:=h
 simp[ZX,h2]
theorem Z4d {α:Type} {l:List α} {i:Nat} {x:α} (h:l[i]?=some x):l.Perm (x :: l.eraseIdx i):=by
 induction l generalizing i with
 | nil=>simp at h
 | cons y l ih =>
  cases i with
  | zero=>simp at h;subst h;simp
  | succ i =>
   simp at h
   exact (List.Perm.cons y (ih h)).trans (List.Perm.swap x y _)
theorem Z4.iter {base:Nat} {w w':World} {D:DSh} {A:Z2} (h:Z4 base w D A) {r:Nat} (hx:Ext (·=r) w w') (ht:ZX w r=none) (h1:r≠D.mf) (h2:r≠D.mb):Z4 base w' D A :=
 h.ext hx (fun b hb e=>by
  subst e
  rcases hb with e|e|e|e|e|⟨f,hf,e|e⟩
  ·rw[e,h.tpb] at ht;cases ht
  ·exact h1 e
  ·exact h2 e
  ·rw[Za h.ochg e] at ht;cases ht
  ·rw[Za h.osyn e] at ht;cases ht
  ·rw[e,(h.file f hf).tag] at ht;cases ht
  ·rw[((h.file f hf).row e).1] at ht;cases ht) (fun b _ hu e=>by rw[e,ht] at hu;cases hu)
theorem Z5Y (at_:Int) (ks:List Bool) (torn:Int) (ps:List PcA):(YW at_ ks torn ps).length≤Zu ps:=by
 have h:=Z1S at_ torn ks ps ps.length
 rw[List.take_length] at h
 unfold YW
 rw[List.length_take]
 omega
def SI (w:World) (A:Z2) (at_ names:Int) (ks:List Bool) (torn:Int) (e:Ending) (w':World):Prop :=
 ∃ D' A',e=.returned (.pointer (some ⟨D'.pb,0,none⟩))∧Z4 w.heap.size w' D' A'∧A'.files=A'.base∧V6 A (Y3 A (Ya at_ (A.now+1).toNat) names) (Ya at_ (A.now+1).toNat) ks torn A'∧Below w.heap.size w w'
structure Z29 (base:Nat) (w:World) (D:DSh) (A:Z2) (D0:DSh) (it m:Nat) (l:List (ByteArray × Nat)) (at_:Int) (ks:List Bool) (torn:Int) (wr:World) (left dn:List (ByteArray × Nat)) (cur:Option (ByteArray × Nat)) (D':DSh) (A':Z2):Prop where
 perm:(dn++left).Perm l
 iter:Yo Value.string YB wr it m l left cur
 new:Z4 w.heap.size wr D' A'
 cut:V6 A dn at_ ks torn A'
 fil:A'.files=[]
 pb:D'.pb=D0.pb
 mf:D'.mf=D0.mf
 mb:D'.mb=D0.mb
 old:Z4 base wr D A
 frame:Below w.heap.size w wr
theorem Z38 {base:Nat} {w:World} {D:DSh} {A:Z2} (h:Z4 base w D A) (hbw:base≤w.heap.size) (at_ names torn:Int) (ks:List Bool) (vk:Value) (hk:Z0 Q3 1 w vk ks) (ha1:-9223372036854775808≤at_) (ha2:at_≤9223372036854775807) (hn1:-9223372036854775808≤names) (hn2:names≤9223372036854775807) (ht1:-9223372036854775808≤torn) (ht2:torn≤9223372036854775807)
  {N:Nat} (hsm:A.Small N) (hN:N≤100000) :
  Calls Tryz.prog 36 #[.pointer (some ⟨D.pb,0,none⟩),.int .i64 at_,.int .i64 names,vk,.int .i64 torn] w fun e w'=>SI w A at_ names ks torn e w':=by
 obtain ⟨nn,hnn⟩:∃ nn:Nat,A.now=nn:=⟨A.now.toNat,by have:=hsm.now0;omega⟩
 have hnN:nn≤100000:=by have:=hsm.now;omega
 have c4:=Joins.cell_of_block h.blk 4
 simp only[List.getElem?_toArray,List.getElem?_cons_succ,List.getElem?_cons_zero,hnn] at c4
 have hpk:=Rp at_ (nn+1) ha1 ha2 (by omega) (by omega)
 obtain ⟨pa,hpa⟩:=Je (Ya at_ (nn+1))
 rw[hpa] at hpk
 have hpae:Ya at_ (A.now+1).toNat=pa:=by rw[←hpa];congr 1;omega
 have HPA:=Lib.hid hpae
 have HPK:=Lib.hid hpk
 obtain ⟨ka,kc,rfl,_⟩:=id hk
 have HK:=Lib.hid hk
 have HH:=Lib.hid h
 have HNN:=Lib.hid hnn
 clear hpk hpa hpae h hk hnn
 go_enter Tryz.func36,Tryz.ntmps36
 go_wp2_with fail
 refine (HPK.out _).mono ?_
 rintro e w1 ⟨rfl,e1⟩
 have e1':=e1.symm
 subst e1'
 go_wp2_with fail
 refine (QM (base:=w.heap.size) w (Nat.le_refl _)).mono ?_
 rintro e w2 ⟨D0,rfl,hD2,b2,_⟩
 have HD2:=Lib.hid hD2
 have HB2:=Lib.hid b2
 clear hD2 b2
 go_wp2_with fail
 refine (Z2A (HH.out.below HB2.out) pa names hn1 hn2 hsm (by omega)).mono ?_
 rintro e w3 ⟨m,rfl,hm3,hmap,b3⟩
 obtain ⟨l,hl⟩:=Je (Y3 A pa names)
 rw[hl] at hmap
 have HLE:=Lib.hid hl
 obtain ⟨w4,hrange,hit,hb4,hz4⟩:=hmap.range (P:=Tryz.prog) XZ
 have hm0:D0.mb<m:=by have:=HD2.out.lmb;omega
 have hmf0:D0.mf<m:=by have:=HD2.out.lmf;omega
 have hrel:Z29 base w D A D0 w3.heap.size m l pa ks torn w4 l [] none D0 U2:={
  perm:=List.Perm.refl _
  iter:=hit
  new:=(HD2.out.below b3).below hb4
  cut:=Z7b A _ _ _
  fil:=rfl
  pb:=rfl
  mf:=rfl
  mb:=rfl
  old:=((HH.out.below HB2.out).below b3).below hb4
  frame:=(HB2.out.trans (b3.mono HB2.out.size)).trans (hb4.mono (Nat.le_trans HB2.out.size b3.size)) }
 have hmit:m<w3.heap.size:=hmap.lt
 have hw2:w.heap.size≤w2.heap.size:=HB2.out.size
 have HREL:=Lib.hid hrel
 have HOK:Hid (∀ n f,(n,f)∈l→f∈A.ids∧n.size≤8):=Jh (fun n f hm=>Z3W HH.out.ok (by rw[HLE.out];exact hm))
 have HND:=Lib.hid hmap.nodup
 clear hrel hit hb4 hz4 hmap b3 hl
 go_wp2_with fail
 obtain ⟨it,hit⟩:=Je (w3.heap.size)
 rw[hit] at HREL hmit ⊢
 clear hrange hit
 go_loopg [14] l.length (fun g bv wr=>∃ left dn cur D' A',g=left.length∧Hid (Z29 base w D A D0 it m l pa ks torn wr left dn cur D' A'))
 case atStart=>exact ⟨l,[],none,D0,U2,rfl,HREL⟩
 case round =>
  obtain ⟨left,dn,cur,D',A',hg,hR⟩:=hrel
  have HG:=Lib.hid hg
  clear hg
  rcases hR.out.iter.next (P:=Tryz.prog) (by omega) with ⟨hnil,hnx⟩|⟨i,p,w5,hip,hnx,hiter2,hx5,hs5⟩
  ·have hb:=hR.out.new.blk
   rw[hR.out.pb] at hb
   have d1:=Joins.cell_of_block hb 1
   have d0:=Joins.unfrozen_of_block hb 0
   simp only[List.getElem?_toArray,List.getElem?_cons_succ,List.getElem?_cons_zero] at d1
   have hcl:=Qm hR.out.new.mbase
   have HCL:=Lib.hid hcl
   have HNIL:=Lib.hid hnil
   have hlp:D0.pb<wr.heap.size:=by have:=hR.out.new.lpb;rw[hR.out.pb] at this;exact this
   have d3:=Joins.cell_of_block hb 0
   simp only[List.getElem?_toArray,List.getElem?_cons_succ,List.getElem?_cons_zero] at d3
   clear hcl hb hnil
   go_wp2_with fail
   refine HCL.out.mono ?_
   rintro e w6 ⟨rfl,hm6,b6⟩
   have h6:=hR.out.new.below b6
   have h7:=h6.reMap hm6 hR.out.frame.size (by have:=hR.out.new.lmb;omega) hR.out.new.ok.inb
   rw[hR.out.pb] at h7
   have hpost:SI w A at_ names ks torn (.returned (.pointer (some ⟨D0.pb,0,none⟩))) (w6.setCell ⟨D0.pb,0,none⟩ (.map (some wr.heap.size))):=by
    refine ⟨{ pb:=D0.pb,mf:=wr.heap.size,mb:=D'.mb,vc:=D'.vc,vs:=D'.vs,rv:=D'.rv },{ A' with files:=A'.base },rfl,h7,rfl,?_,?_⟩
    ·have hc:=hR.out.cut
     have hpm:=hR.out.perm
     rw[HNIL.out,List.append_nil] at hpm
     rw[HPA.out,HLE.out]
     exact ⟨hc.chg,hc.syn,hc.now,hc.perm.trans (hpm.map _),fun n f hm=>hc.has n f (hpm.symm.subset hm),hc.vals,hc.one,hc.ln,hc.pc⟩
    ·refine Ext.new (hR.out.frame.trans (b6.mono hR.out.frame.size)) (Yt _ _ _ _) (fun i hi _ e=>?_) (Nat.le_trans hR.out.frame.size b6.size)
     have:=hR.out.new.lo
     rw[hR.out.pb] at this
     omega
   have e6:=Zp b6 d3
   have g6:=(Ext.of_below (S:=fun _=>False) b6).frozen (p:=⟨D0.pb,0,none⟩) hlp (fun e=>e)
   rw[d0] at g6
   have HP:=Lib.hid hpost
   clear hm6 b6 h6 h7 hpost
   go_wp2
   go_ret
   exact HP.out
  ·obtain ⟨n,f⟩:=p
   have hen:∀ W,Yo Value.string YB W it m l (left.eraseIdx i) (some (n,f))→(Instr.entry (.pointer (some ⟨it,0,none⟩))).run Tryz.prog W=.ok (.tuple #[.string n,.pointer (some ⟨f,0,none⟩)]) W:=fun W hW=>hW.entry
   simp only[YB] at hnx
   have hpl:(n,f)∈l:=hR.out.perm.subset (List.mem_append_right _ (List.mem_of_getElem? hip))
   have hit0:=Z5C hR.out.iter
   have hold5:=hR.out.old.iter hx5 hit0 (Tc hR.out.iter hR.out.old.mfiles) (Tc hR.out.iter hR.out.old.mbase)
   have hnew5:=hR.out.new.iter hx5 hit0 (Tc hR.out.iter hR.out.new.mfiles) (Tc hR.out.iter hR.out.new.mbase)
   have hfr5:Below w.heap.size w w5:=Ext.new hR.out.frame hx5 (fun j hj _ e=>by omega) hR.out.frame.size
   have hfi:=(HOK.out n f hpl).1
   have hleft:=Z5M (hold5.file f hfi) pa ks torn (HK.out.below hfr5) ht1 ht2 (hold5.ok.sz f hfi) (by have:=hsm.pcs f hfi;omega)
   have HLEFT:=Lib.hid hleft
   have HPL:=Lib.hid hpl
   have HOLD:=Lib.hid hold5
   have HNEW:=Lib.hid hnew5
   have HFR:=Lib.hid hfr5
   have HIP:=Lib.hid hip
   have HI2:=Lib.hid hiter2
   have hen2:=hen w5 hiter2
   clear hleft hpl hold5 hnew5 hfr5 hip hiter2 hx5 hen hfi hit0
   go_wp2_with fail
   refine HLEFT.out.mono ?_
   rintro e w6 ⟨v6,rfl,own6,b6⟩
   obtain ⟨⟨sa,sn,sc⟩,e6⟩:=own6.slv
   change v6=.slice sa sn sc at e6
   subst e6
   obtain ⟨esn⟩:sn=(YW pa ks torn (A.fs f)).length:=by
    obtain ⟨_,_,e,_⟩:=own6.slice Z7
    simp only[Value.slice.injEq] at e
    exact e.2.1
   obtain ⟨bs,hbs⟩:=Je (YW pa ks torn (A.fs f))
   rw[hbs] at own6 ⊢
   have hlb:bs.length≤1048576:=by
    rw[←hbs]
    exact Nat.le_trans (Z5Y _ _ _ _) (HOLD.out.ok.sz f (HOK.out n f HPL.out).1)
   have h6:=HNEW.out.below b6
   have hBc:Below w6.heap.size w6 ((w6.alloc (.cells #[.slice sa bs.length sc,.int .i64 0,.int .i64 (-1)] 131)).alloc (.cells #[.slice (some ⟨w6.heap.size,0,none⟩) 1 1,.int .i64 bs.length] 124)):=((Below.refl _ _).alloc (Nat.le_refl _) _).alloc (by simp) _
   have hfr6:Below w.heap.size w w6:=HFR.out.trans (b6.mono HFR.out.size)
   have hp1:(w6.alloc (.cells #[.slice sa bs.length sc,.int .i64 0,.int .i64 (-1)] 131)).heap[w6.heap.size]?=some (.cells #[.slice sa bs.length sc,.int .i64 0,.int .i64 (-1)] 131 (0,0)):=(MapKept.heap_alloc w6 _).1
   have hfile:Xr w.heap.size ((w6.alloc (.cells #[.slice sa bs.length sc,.int .i64 0,.int .i64 (-1)] 131)).alloc (.cells #[.slice (some ⟨w6.heap.size,0,none⟩) 1 1,.int .i64 bs.length] 124)) (w6.heap.size+1) (.slice (some ⟨w6.heap.size,0,none⟩) 1 1) [⟨bs,0,-1⟩]:=by
    refine ⟨by have:=hfr6.size;omega,?_,[⟨⟨sa,bs.length,sc⟩,0,-1⟩],Own.single Pc.len ?_ hfr6.size,rfl,fun i q p hq hp=>?_⟩
    ·have:=(MapKept.heap_alloc (w6.alloc (.cells #[.slice sa bs.length sc,.int .i64 0,.int .i64 (-1)] 131)) (.cells #[.slice (some ⟨w6.heap.size,0,none⟩) 1 1,.int .i64 bs.length] 124)).1
     rw[World.size_alloc] at this
     simpa [Zu] using this
    ·rw[Below.heap_alloc _ _ _ (by simp)]
     exact hp1
    ·have hi0:i=0:=by
      have:=(List.getElem?_eq_some_iff.1 hq).1
      simpa using this
     subst hi0
     simp at hq hp
     subst hq hp
     exact ⟨(own6.ext (Ext.of_below (S:=fun _=>False) hBc) (fun _ _=>id)).mono HFR.out.size,rfl,rfl⟩
   have h8:=h6.bornFull hBc hfile (by omega) (fun b hb=>by have:w6.heap.size=b:=Option.some.inj hb;omega) (by simpa [Zu] using hlb)
   have hup:=h8.mbase.update (P:=Tryz.prog) WC XZ n (YB (w6.heap.size+1))
   have h9:=h8.bases (Vu _ _ (ZT A'.base n) (.string n) (YB (w6.heap.size+1))) (h8.mbase.put n (w6.heap.size+1)) (fun k g hk=>by
    have hsub:(k,g)∈A'.base∨(k=n∧g=w6.heap.size+1):=by
     cases hi:ZT A'.base n with
     | none =>
      rw[VP hi] at hk
      rcases List.mem_append.1 hk with hk|hk
      ·exact .inl hk
      ·simp at hk;exact .inr hk
     | some j =>
      rw[UA hi] at hk
      rcases List.mem_or_eq_of_mem_set hk with hk|hk
      ·exact .inl hk
      ·cases hk;exact .inr ⟨rfl,rfl⟩
    rcases hsub with hk|⟨rfl,rfl⟩
    ·exact ⟨List.mem_cons_of_mem _ (h6.ok.inb k g hk).1,(h6.ok.inb k g hk).2⟩
    ·exact ⟨List.mem_cons_self,(HOK.out k f HPL.out).2⟩)
   have hbk:=h6.blk
   rw[hR.out.pb] at hbk
   have d1:=Joins.cell_of_block hbk 1
   simp only[List.getElem?_toArray,List.getElem?_cons_succ,List.getElem?_cons_zero] at d1
   have hperm:=hR.out.perm
   have hnd:((dn++left).map (·.1)).Nodup:=(hperm.map (·.1)).nodup_iff.2 HND.out
   have hni:n∉dn.map (·.1):=fun e=>by
    rw[List.map_append,List.nodup_append] at hnd
    exact hnd.2.2 n e n (List.mem_map.2 ⟨(n,f),List.mem_of_getElem? HIP.out,rfl⟩) rfl
   have hfbn:w6.heap.size+1∉A'.ids:=fun e=>by have:=(h6.file _ e).lt;omega
   have hcut:=hR.out.cut.step (f:=f) hni hfbn
   rw[hbs] at hcut
   have hmb:D'.mb=D0.mb:=hR.out.mb
   have hmb1:w.heap.size≤D'.mb:=hR.out.new.lob
   obtain ⟨wc,hwc⟩:=Je ((w6.alloc (.cells #[.slice sa bs.length sc,.int .i64 0,.int .i64 (-1)] 131)).alloc (.cells #[.slice (some ⟨w6.heap.size,0,none⟩) 1 1,.int .i64 bs.length] 124))
   have hsz5:=b6.size
   have hsz6:=hBc.size
   have hit5:=HI2.out.lt
   have hiter:Yo Value.string YB (Yj wc D'.mb (ZT A'.base n) (.string n) (YB (w6.heap.size+1))) it m l (left.eraseIdx i) (some (n,f)):=by
    rw[←hwc]
    refine ((HI2.out.ext (Ext.of_below (S:=fun _=>False) b6) (fun e=>e) (fun e=>e)).ext (Ext.of_below (S:=fun _=>False) hBc) (fun e=>e) (fun e=>e)).ext (Vu _ _ _ _ _) (fun e=>?_) (fun e=>?_)
    ·exact Tc HI2.out HNEW.out.mbase e
    ·omega
   have hold:=((HOLD.out.below b6).below hBc).ext (Vu _ D'.mb (ZT A'.base n) (.string n) (YB (w6.heap.size+1))) (fun b hb e=>by
    have h0:XR D A b:=hb
    have:=(HH.out.foot h0).2.1
    omega) (fun b _ hu e=>by
    rw[e,YY h8.mbase] at hu
    cases hu)
   have hframe:=Ext.new (hfr6.trans (hBc.mono hfr6.size)) (Vu _ D'.mb (ZT A'.base n) (.string n) (YB (w6.heap.size+1))) (fun j hj _ e=>by omega) (Nat.le_trans hfr6.size hBc.size)
   rw[hwc] at h9 hold hframe hup
   have hrel2:Z29 base w D A D0 it m l pa ks torn (Yj wc D'.mb (ZT A'.base n) (.string n) (YB (w6.heap.size+1))) (left.eraseIdx i) (dn++[(n,f)]) (some (n,f)) _ (Vy n (w6.heap.size+1) bs A'):={
    perm:=by
     rw[List.append_assoc]
     exact (List.Perm.append_left dn (Z4d HIP.out).symm).trans hperm
    iter:=hiter
    new:=h9
    cut:=hcut
    fil:=hR.out.fil
    pb:=hR.out.pb
    mf:=hR.out.mf
    mb:=hmb
    old:=hold
    frame:=hframe }
   have HREL2:=Lib.hid hrel2
   have hel:(left.eraseIdx i).length<gk:=by
    rw[HG.out,List.length_eraseIdx]
    have:=(List.getElem?_eq_some_iff.1 HIP.out).1
    rw[if_pos this]
    omega
   have HN4:=Lib.hid HNEW.out
   have hd1l:=Zh d1
   clear hmb h6 hBc hp1 hfile h8 h9 hbk hperm hnd hni hfbn hcut hiter hold hframe hrel2 own6 b6 hfr6
   have hup2:(Instr.mapUpdate 115 (.map (some D'.mb)) (.string n) (.pointer (some ⟨w6.heap.size+1,0,none⟩))).run Tryz.prog wc=.ok () (Yj wc D'.mb (ZT A'.base n) (.string n) (YB (w6.heap.size+1))):=hup
   clear hup
   go_wp2_with fail
   go_roundg (left.eraseIdx i).length
   case measure=>exact hel
   case rel=>exact ⟨_,_,_,_,_,rfl,HREL2⟩
structure Z2.Hist (A:Z2):Prop where
 fold:A.files=A.chg.foldl (fun l c=>ZA c l) A.base
 at_:∀ c∈A.chg,c.at_≤A.now
 syn:∀ n∈A.syn,n≤A.now
 pcs:∀ f∈A.ids,∀ p∈A.fs f,p.came≤A.now∧p.safe≤A.now
theorem Z6j:U2.Hist:=⟨rfl,fun c hc=>(by cases hc),fun c hc=>(by cases hc),fun c hc=>(by cases hc)⟩
theorem Z2.Hist.step {A:Z2} (h:A.Hist) (c:Chg):(Zs c A).Hist:=by
 refine ⟨?_,fun d hd=>?_,fun n hn=>?_,fun f hf p hp=>?_⟩
 ·simp only[Zs]
  rw[List.foldl_append,←h.fold]
  rfl
 ·simp only[Zs] at hd ⊢
  rcases List.mem_append.1 hd with hd|hd
  ·have:=h.at_ d hd;omega
  ·simp at hd;subst hd;simp
 ·have:=h.syn n hn;simp only[Zs];omega
 ·have:=h.pcs f hf p hp;simp only[Zs];omega
theorem Z6M {n m:Int} {p:PcA} (h:p.came≤n∧p.safe≤n) (hm:n≤m):(XL m p).came≤m∧(XL m p).safe≤m:=by
 unfold XL
 split
 ·exact ⟨by dsimp only;omega,by dsimp only;omega⟩
 ·exact ⟨by omega,by omega⟩
theorem Z2.Hist.sync {A:Z2} (h:A.Hist) (f:Nat):(Zt f A).Hist:=by
 refine ⟨h.fold,fun d hd=>?_,fun n hn=>?_,fun g hg p hp=>?_⟩
 ·have:=h.at_ d hd;simp only[Zt];omega
 ·have:=h.syn n hn;simp only[Zt];omega
 ·simp only[Zt] at hp ⊢
  split at hp
  ·rename_i e
   obtain ⟨q,hq,rfl⟩:=List.mem_map.1 hp
   rw[←e] at hq
   exact Z6M (h.pcs g hg q hq) (by omega)
  ·have:=h.pcs g hg p hp;omega
theorem Z2.Hist.syns {A:Z2} (h:A.Hist):(YE A).Hist:=by
 refine ⟨h.fold,fun d hd=>?_,fun n hn=>?_,fun g hg p hp=>?_⟩
 ·have:=h.at_ d hd;simp only[YE];omega
 ·simp only[YE] at hn ⊢
  rcases List.mem_append.1 hn with hn|hn
  ·have:=h.syn n hn;omega
  ·simp at hn;omega
 ·have:=h.pcs g hg p hp;simp only[YE];omega
theorem Z2.Hist.app {A:Z2} (h:A.Hist) (h0:0≤A.now) (f:Nat) (bs:List UInt8):(ZU f bs A).Hist:=by
 refine ⟨h.fold,fun d hd=>?_,fun n hn=>?_,fun g hg p hp=>?_⟩
 ·have:=h.at_ d hd;simp only[ZU];omega
 ·have:=h.syn n hn;simp only[ZU];omega
 ·simp only[ZU] at hp ⊢
  split at hp
  ·rename_i e
   rcases List.mem_append.1 hp with hp|hp
   ·rw[←e] at hp;have:=h.pcs g hg p hp;omega
   ·simp at hp;subst hp;exact ⟨by simp,by simp;omega⟩
  ·have:=h.pcs g hg p hp;omega
theorem Z2.Hist.born {A:Z2} (h:A.Hist) (fb:Nat):(Yq fb A).Hist:=by
 refine ⟨h.fold,h.at_,h.syn,fun g hg p hp=>?_⟩
 simp only[Yq] at hp hg ⊢
 split at hp
 ·cases hp
 ·rename_i e
  exact h.pcs g ((List.mem_cons.1 hg).resolve_left e) p hp
theorem Z25 {safe at_:Int}:∀ {cs:List Chg} {op:Nat} {m:List (ByteArray × Nat)},(∀ c∈cs,¬ safe<c.at_)→YH safe at_ cs op m=cs.foldl (fun l c=>ZA c l) m
 | [],_,_,_=>rfl
 | c :: cs,op,m,h=>by
  unfold YH
  rw[if_neg (h c List.mem_cons_self)]
  exact Z25 (fun d hd=>h d (List.mem_cons_of_mem _ hd))
theorem Z3Q (syn:List Int) {n at_:Int} (h:n≤at_):Yk (syn++[n]) at_=n:=by
 unfold Yk
 rw[List.foldl_append]
 simp[h]
theorem Z63 {at_:Int} {ks:List Bool} {torn:Int} {ps:List PcA} (h:∀ p∈ps,p.came≤at_∧p.safe≤at_∧p.safe≠0):YW at_ ks torn ps=Zf ps:=by
 have key:∀ (ps:List PcA) (o:List UInt8) (n:Nat),(∀ p∈ps,p.came≤at_∧p.safe≤at_∧p.safe≠0)→ps.foldl (Ze at_ ks torn) ⟨o,o.length,n⟩=⟨o++Zf ps,(o++Zf ps).length,n⟩:=by
  intro ps
  induction ps with
  | nil=>intro o n _;simp[Zf]
  | cons p ps ih =>
   intro o n h
   obtain ⟨h1,h2,h3⟩:=h p List.mem_cons_self
   have e:Ze at_ ks torn ⟨o,o.length,n⟩ p=⟨o++p.bs,(o++p.bs).length,n⟩:=by
    unfold Ze
    rw[if_neg (by omega),if_pos ⟨h3,h2⟩]
   rw[List.foldl_cons,e,ih _ _ (fun q hq=>h q (List.mem_cons_of_mem _ hq))]
   simp[Zf,List.flatMap_cons]
 unfold YW Xz
 rw[show (⟨[],0,0⟩:WD)=⟨[],([]:List UInt8).length,0⟩ from rfl,key ps [] 0 h]
 simp
theorem Z4u {k n:Nat} (h:k<n):Ya (k:Int) n=k:=by
 unfold Ya
 rw[if_neg (by omega),Int.emod_eq_of_lt (by omega) (by omega)]
 simp
theorem Z1y {a b:Int}:∀ (syn:List Int) (z:Int),(∀ n∈syn,n≤a∧n≤b)→syn.foldl (fun s n=>if n≤a then n else s) z=syn.foldl (fun s n=>if n≤b then n else s) z
 | [],_,_=>rfl
 | n :: syn,z,h=>by
  rw[List.foldl_cons,List.foldl_cons,if_pos (h n (by simp)).1,if_pos (h n (by simp)).2]
  exact Z1y syn n (fun m hm=>h m (by simp[hm]))
theorem Z1c {a b:Int} {syn:List Int} (h:∀ n∈syn,n≤a∧n≤b):Yk syn a=Yk syn b:=Z1y syn 0 h
theorem Z1w {a:Int}:∀ (syn:List Int) (z:Int),z≤a→syn.foldl (fun s n=>if n≤a then n else s) z≤a
 | [],_,h=>h
 | n :: syn,z,h=>by
  rw[List.foldl_cons]
  refine Z1w syn _ ?_
  split
  ·assumption
  ·exact h
theorem Z28 {a:Int} (syn:List Int) (h:0≤a):Yk syn a≤a:=Z1w syn 0 h
theorem Z0O {a:Int}:∀ (ss:List Int) (z:Int),(∀ n∈ss,a<n)→ss.foldl (fun s n=>if n≤a then n else s) z=z
 | [],_,_=>rfl
 | n :: ss,z,h=>by
  rw[List.foldl_cons,if_neg (by have:=h n (by simp);omega)]
  exact Z0O ss z (fun m hm=>h m (by simp[hm]))
theorem Z3C (c:Chg) (cs:List Chg) (s a:Int):Yf (c :: cs) s a=(if s<c.at_∧c.at_≤a then 1 else 0)+Yf cs s a:=by
 unfold Yf
 rw[List.filter_cons]
 by_cases h1:s<c.at_ <;> by_cases h2:c.at_≤a <;> simp[h1,h2] <;> omega
theorem Z4s (cs ds:List Chg) (s a:Int):Yf (cs++ds) s a=Yf cs s a+Yf ds s a:=by
 unfold Yf
 rw[List.filter_append,List.length_append]
theorem Z1v {a b s:Int} {cs:List Chg} (h:∀ c∈cs,c.at_≤a∧c.at_≤b):Yf cs s a=Yf cs s b:=by
 unfold Yf
 congr 1
 refine List.filter_congr (fun c hc=>?_)
 have:=h c hc
 rw[decide_eq_true this.1,decide_eq_true this.2]
theorem Z4T {a s:Int} {cs:List Chg} (h:∀ c∈cs,a<c.at_):Yf cs s a=0:=by
 unfold Yf
 rw[List.length_eq_zero_iff,List.filter_eq_nil_iff]
 intro c hc
 have:=h c hc
 simp
 omega
theorem SD {a b s:Int}:∀ {cs:List Chg} {op:Nat} {m:List (ByteArray × Nat)},(∀ c∈cs,c.at_≤a∧c.at_≤b)→YH s a cs op m=YH s b cs op m
 | [],_,_,_=>rfl
 | c :: cs,op,m,h=>by
  have h1:=h c (by simp)
  unfold YH
  rw[SD (op:=op - 1) (fun d hd=>h d (by simp[hd])),SD (op:=op) (fun d hd=>h d (by simp[hd]))]
  have e1:(op=0∨a<c.at_)↔(op=0∨b<c.at_):=by constructor <;> intro h2 <;> rcases h2 with h2|h2 <;> omega
  simp only[e1]
theorem Sg {s a:Int} {d:Chg} (hd:s<d.at_) (hd2:d.at_≤a):∀ {cs:List Chg} {op:Nat} {m:List (ByteArray × Nat)},(∀ c∈cs,c.at_≤a) →
  YH s a (cs++[d]) op m=if op≤Yf cs s a then YH s a cs op m else ZA d (cs.foldl (fun l c=>ZA c l) m)
 | [],op,m,_=>by
  have e:Yf [] s a=0:=rfl
  rw[List.nil_append,e]
  by_cases h0:op=0
  ·subst h0
   simp[YH,hd]
  ·have h1:¬ (op=0∨a<d.at_):=by omega
   simp only[YH,if_pos hd,if_neg h1]
   rw[if_neg (by omega)]
   rfl
 | c :: cs,op,m,h=>by
  have hc:=h c (by simp)
  have h2:∀ e∈cs,e.at_≤a:=fun e he=>h e (by simp[he])
  rw[List.cons_append,Z3C]
  by_cases hs:s<c.at_
  ·rw[if_pos (show s<c.at_∧c.at_≤a from ⟨hs,hc⟩)]
   by_cases h0:op=0
   ·subst h0
    simp[YH,hs]
   ·have h1:¬ (op=0∨a<c.at_):=by omega
    simp only[YH,if_pos hs,if_neg h1]
    rw[Sg hd hd2 h2]
    by_cases h3:op - 1≤Yf cs s a
    ·rw[if_pos h3,if_pos (show op≤1+Yf cs s a by omega)]
    ·rw[if_neg h3,if_neg (show ¬ op≤1+Yf cs s a by omega)]
     rfl
  ·rw[if_neg (show ¬ (s<c.at_∧c.at_≤a) from fun e=>hs e.1),Nat.zero_add]
   simp only[YH,if_neg hs]
   rw[Sg hd hd2 h2]
   rfl
def YZ (A:Z2) (P:List (List (ByteArray × Nat))):Prop:=∀ nm,Y3 A A.now nm∈P
theorem YZ.step {A:Z2} {P:List (List (ByteArray × Nat))} (h:YZ A P) (hh:A.Hist) (h0:0≤A.now) (c:Chg):YZ (Zs c A) (P++[ZA c A.files]):=by
 intro nm
 have hs:Yk A.syn (A.now+1)=Yk A.syn A.now:=Z1c (fun n hn=>⟨by have:=hh.syn n hn;omega,hh.syn n hn⟩)
 have hle:=Z28 A.syn h0
 have ho:Yf A.chg (Yk A.syn A.now) (A.now+1)=Yf A.chg (Yk A.syn A.now) A.now:=Z1v (fun c hc=>⟨by have:=hh.at_ c hc;omega,hh.at_ c hc⟩)
 have hu:∀ op,YH (Yk A.syn A.now) (A.now+1) A.chg op A.base=YH (Yk A.syn A.now) A.now A.chg op A.base:=fun op=>SD (fun c hc=>⟨by have:=hh.at_ c hc;omega,hh.at_ c hc⟩)
 unfold Y3
 show YH (Yk A.syn (A.now+1)) (A.now+1) (A.chg++[{ c with at_:=A.now+1 }]) (Ya nm (Yf (A.chg++[{ c with at_:=A.now+1 }]) (Yk A.syn (A.now+1)) (A.now+1)+1)) A.base∈_
 rw[hs,Sg (d:={ c with at_:=A.now+1 }) (show Yk A.syn A.now<A.now+1 by omega) (show A.now+1≤A.now+1 from Int.le_refl _) (fun d hd=>by have:=hh.at_ d hd;omega),ho]
 split
 ·rename_i h1
  rw[hu]
  have:=h ((Ya nm (Yf (A.chg++[{ c with at_:=A.now+1 }]) (Yk A.syn A.now) (A.now+1)+1):Nat):Int)
  unfold Y3 at this
  rw[Z4u (by omega)] at this
  exact List.mem_append_left _ this
 ·refine List.mem_append_right _ ?_
  rw[←hh.fold]
  exact List.mem_singleton.2 rfl
theorem YZ.syn_ {A:Z2} (hh:A.Hist):YZ (YE A) [A.files]:=by
 intro nm
 have hx:=hh.syns
 have hsf:Yk (YE A).syn (YE A).now=(YE A).now:=Z3Q A.syn (Int.le_refl _)
 unfold Y3
 rw[hsf,Z25 (fun c hc=>by have:=hx.at_ c hc;omega)]
 exact List.mem_singleton.2 hx.fold.symm
theorem YZ.now {A A':Z2} {P:List (List (ByteArray × Nat))} (h:YZ A P) (hh:A.Hist) (h1:A'.chg=A.chg) (h2:A'.syn=A.syn) (h3:A'.base=A.base) (h4:A.now≤A'.now):YZ A' P:=by
 intro nm
 have:=h nm
 unfold Y3 at this ⊢
 rw[h1,h2,h3,Z1c (b:=A.now) (fun n hn=>⟨by have:=hh.syn n hn;omega,hh.syn n hn⟩),Z1v (b:=A.now) (fun c hc=>⟨by have:=hh.at_ c hc;omega,hh.at_ c hc⟩),SD (b:=A.now) (fun c hc=>⟨by have:=hh.at_ c hc;omega,hh.at_ c hc⟩)]
 exact this
theorem YZ.base {A:Z2} (h1:A.chg=[]):YZ A [A.base]:=by
 intro nm
 unfold Y3
 rw[h1]
 exact List.mem_singleton.2 rfl
theorem Z5n {a b torn:Int} {ks:List Bool} {ps:List PcA} (h:∀ p∈ps,(p.came≤a∧p.safe≤a)∧(p.came≤b∧p.safe≤b)):YW a ks torn ps=YW b ks torn ps:=by
 have key:∀ (ps:List PcA) (s:WD),(∀ p∈ps,(p.came≤a∧p.safe≤a)∧(p.came≤b∧p.safe≤b))→ps.foldl (Ze a ks torn) s=ps.foldl (Ze b ks torn) s:=by
  intro ps
  induction ps with
  | nil=>intro s _;rfl
  | cons p ps ih =>
   intro s h
   have hp:=h p (by simp)
   have e:Ze a ks torn s p=Ze b ks torn s p:=by
    unfold Ze
    rw[if_neg (by omega),if_neg (show ¬ b<p.came by omega)]
    have e1:(p.safe≠0∧p.safe≤a)↔(p.safe≠0∧p.safe≤b):=by constructor <;> (rintro ⟨h1,h2⟩;exact ⟨h1,by omega⟩)
    simp only[e1]
   rw[List.foldl_cons,List.foldl_cons,e]
   exact ih _ (fun q hq=>h q (by simp[hq]))
 unfold YW Xz
 rw[key ps _ h]
def X9 (t:Int):List PcA→List PcA→Prop
 | [],qs=>∀ q∈qs,t<q.came
 | p :: ps,q :: qs=>(q.bs=p.bs∧q.came=p.came∧(q.safe=p.safe∨p.safe=0∧t<q.safe))∧X9 t ps qs
 | _ :: _,[]=>False
theorem X9.refl (t:Int):∀ ps,X9 t ps ps
 | []=>fun q hq=>(by cases hq)
 | _ :: ps=>⟨⟨rfl,rfl,.inl rfl⟩,X9.refl t ps⟩
theorem X9.snoc {t:Int} {r:PcA} (hr:t<r.came):∀ {ps qs:List PcA},X9 t ps qs→X9 t ps (qs++[r])
 | [],qs,h=>fun q hq=>by
  rcases List.mem_append.1 hq with hq|hq
  ·exact h q hq
  ·rw[List.mem_singleton.1 hq];exact hr
 | p :: ps,q :: qs,h=>⟨h.1,X9.snoc hr h.2⟩
theorem X9.sync {t n:Int} (hn:t<n):∀ {ps qs:List PcA},X9 t ps qs→X9 t ps (qs.map (XL n))
 | [],qs,h=>fun q hq=>by
  obtain ⟨r,hr,rfl⟩:=List.mem_map.1 hq
  have:=h r hr
  unfold XL
  split <;> exact this
 | p :: ps,q :: qs,h=>by
  refine ⟨?_,X9.sync hn h.2⟩
  have h1:=h.1
  unfold XL
  split
  ·rename_i h0
   refine ⟨h1.1,h1.2.1,.inr ?_⟩
   rcases h1.2.2 with h2|h2
   ·exact ⟨by rw[←h2];exact h0,hn⟩
   ·exact ⟨h2.1,hn⟩
  ·exact h1
theorem X9.left {t torn:Int} {ks:List Bool} {ps qs:List PcA} (h:X9 t ps qs):YW t ks torn qs=YW t ks torn ps:=by
 have new:∀ (qs:List PcA) (s:WD),(∀ q∈qs,t<q.came)→qs.foldl (Ze t ks torn) s=s:=by
  intro qs
  induction qs with
  | nil=>intro s _;rfl
  | cons q qs ih =>
   intro s h
   rw[List.foldl_cons]
   have e:Ze t ks torn s q=s:=by unfold Ze;rw[if_pos (h q (by simp))]
   rw[e]
   exact ih s (fun r hr=>h r (by simp[hr]))
 have key:∀ (ps qs:List PcA) (s:WD),X9 t ps qs→qs.foldl (Ze t ks torn) s=ps.foldl (Ze t ks torn) s:=by
  intro ps
  induction ps with
  | nil=>intro qs s h;exact new qs s h
  | cons p ps ih =>
   intro qs s h
   cases qs with
   | nil=>exact h.elim
   | cons q qs =>
    rw[List.foldl_cons,List.foldl_cons]
    have e:Ze t ks torn s q=Ze t ks torn s p:=by
     obtain ⟨h1,h2,h3⟩:=h.1
     unfold Ze
     rw[h1,h2]
     have e1:(q.safe≠0∧q.safe≤t)↔(p.safe≠0∧p.safe≤t):=by
      rcases h3 with h3|⟨h3,h4⟩
      ·rw[h3]
      ·constructor
       ·rintro ⟨_,h5⟩;omega
       ·rintro ⟨h5,_⟩;exact absurd h3 h5
     simp only[e1]
    rw[e]
    exact ih qs _ h.2
 unfold YW Xz
 rw[key ps qs _ h]
structure Y9 (A B:Z2):Prop where
 base:B.base=A.base
 chg:∃ cs,B.chg=A.chg++cs∧∀ c∈cs,A.now<c.at_
 syn:∃ ss,B.syn=A.syn++ss∧∀ n∈ss,A.now<n
 now:A.now≤B.now
 ids:∀ f∈A.ids,f∈B.ids
 pcs:∀ f∈A.ids,X9 A.now (A.fs f) (B.fs f)
theorem Y9.refl (A:Z2):Y9 A A:=⟨rfl,⟨[],by simp,fun c hc=>(by cases hc)⟩,⟨[],by simp,fun c hc=>(by cases hc)⟩,Int.le_refl _,fun _ h=>h,fun f _=>X9.refl _ _⟩
theorem Y9.step {A B:Z2} (h:Y9 A B) (c:Chg):Y9 A (Zs c B):=by
 obtain ⟨cs,e,hc⟩:=h.chg
 have hn:=h.now
 refine ⟨h.base,⟨cs++[{ c with at_:=B.now+1 }],?_,fun d hd=>?_⟩,h.syn,by simp only[Zs];omega,h.ids,h.pcs⟩
 ·simp only[Zs];rw[e,List.append_assoc]
 ·rcases List.mem_append.1 hd with hd|hd
  ·exact hc d hd
  ·rw[List.mem_singleton.1 hd];show A.now<B.now+1;omega
theorem Y9.born {A B:Z2} (h:Y9 A B) {fb:Nat} (hf:fb∉B.ids):Y9 A (Yq fb B) :=
 ⟨h.base,h.chg,h.syn,h.now,fun f hf=>List.mem_cons_of_mem _ (h.ids f hf),fun f hfA=>by
  simp only[Yq]
  rw[if_neg (fun e=>hf (by rw[←e];exact h.ids f hfA))]
  exact h.pcs f hfA⟩
theorem Y9.app {A B:Z2} (h:Y9 A B) (g:Nat) (bs:List UInt8):Y9 A (ZU g bs B):=by
 have hn:=h.now
 refine ⟨h.base,h.chg,h.syn,by simp only[ZU];omega,h.ids,fun f hf=>?_⟩
 simp only[ZU]
 split
 ·rename_i e;rw[←e];exact (h.pcs f hf).snoc (by show A.now<B.now+1;omega)
 ·exact h.pcs f hf
theorem Y9.sync {A B:Z2} (h:Y9 A B) (g:Nat):Y9 A (Zt g B):=by
 have hn:=h.now
 refine ⟨h.base,h.chg,h.syn,by simp only[Zt];omega,h.ids,fun f hf=>?_⟩
 simp only[Zt]
 split
 ·rename_i e;rw[←e];exact (h.pcs f hf).sync (by omega)
 ·exact h.pcs f hf
theorem Y9.syn_ {A B:Z2} (h:Y9 A B):Y9 A (YE B):=by
 have hn:=h.now
 obtain ⟨ss,e,hs⟩:=h.syn
 refine ⟨h.base,h.chg,⟨ss++[B.now+1],by simp only[YE];rw[e,List.append_assoc],fun n hm=>?_⟩,by simp only[YE];omega,h.ids,h.pcs⟩
 rcases List.mem_append.1 hm with hm|hm
 ·exact hs n hm
 ·rw[List.mem_singleton.1 hm];omega
theorem Y9.names {A B:Z2} (h:Y9 A B) (hh:A.Hist) (h0:0≤A.now) (nm:Int):Y3 B A.now nm=Y3 A A.now nm:=by
 obtain ⟨cs,e1,hc⟩:=h.chg
 obtain ⟨ss,e2,hs⟩:=h.syn
 have hsf:Yk B.syn A.now=Yk A.syn A.now:=by
  rw[e2]
  unfold Yk
  rw[List.foldl_append]
  exact Z0O ss _ hs
 have hle:=Z28 A.syn h0
 unfold Y3
 rw[hsf,h.base,e1,Z4s,Z4T hc,Nat.add_zero]
 have key:∀ (l:List Chg) (op:Nat) (m:List (ByteArray × Nat)),YH (Yk A.syn A.now) A.now (l++cs) op m=YH (Yk A.syn A.now) A.now l op m:=by
  intro l
  induction l with
  | nil =>
   intro op m
   cases cs with
   | nil=>rfl
   | cons c cs =>
    rw[List.nil_append]
    have:=hc c (by simp)
    unfold YH
    rw[if_pos (by omega),if_pos (.inr this)]
  | cons c l ih =>
   intro op m
   rw[List.cons_append]
   conv=>lhs;unfold YH
   conv=>rhs;unfold YH
   rw[ih,ih]
 exact key _ _ _
theorem Y9.left {A B:Z2} (h:Y9 A B) {f:Nat} (hf:f∈A.ids) (ks:List Bool) (torn:Int):YW A.now ks torn (B.fs f)=YW A.now ks torn (A.fs f):=(h.pcs f hf).left
end Go.Proofs.YtgmdimbiipemhaaGreatDoor
namespace Go.Proofs.YtgmdimbiipemhaaGreatDoor
open Go.RowKit
structure St where
 n:Int
 r:Int
 deriving DecidableEq
def YA (s:St):Bool:=decide (1≤s.n∧s.n≤1048576∧0≤s.r∧s.r<8)
theorem Z04 (a b:Int) (w:World) :
  Calls Tryz.prog 138 #[.agg #[.int .i64 a,.int .i64 b]] w
   fun e w'=>e=.returned (.bool (YA ⟨a,b⟩))∧Below w.heap.size w w':=by
 by_cases h1:1≤a
 ·by_cases h2:a≤1048576
  ·by_cases h3:0≤b
   ·by_cases h4:b<8
    ·have hr:YA ⟨a,b⟩=true:=by simp only[YA,decide_eq_true_eq];exact ⟨h1,h2,h3,h4⟩
     rw[hr];clear hr
     go_enter Tryz.func138,Tryz.ntmps138
     go_wp2
     go_ret
     exact ⟨rfl,(Below.refl _ _).alloc (Nat.le_refl _) _⟩
    ·have hr:YA ⟨a,b⟩=false:=by simp only[YA,decide_eq_false_iff_not];omega
     rw[hr];clear hr
     go_enter Tryz.func138,Tryz.ntmps138
     go_wp2
     go_ret
     exact ⟨rfl,(Below.refl _ _).alloc (Nat.le_refl _) _⟩
   ·have hr:YA ⟨a,b⟩=false:=by simp only[YA,decide_eq_false_iff_not];omega
    rw[hr];clear hr
    go_enter Tryz.func138,Tryz.ntmps138
    go_wp2
    go_ret
    exact ⟨rfl,(Below.refl _ _).alloc (Nat.le_refl _) _⟩
  ·have hr:YA ⟨a,b⟩=false:=by simp only[YA,decide_eq_false_iff_not];omega
   rw[hr];clear hr
   go_enter Tryz.func138,Tryz.ntmps138
   go_wp2
   go_ret
   exact ⟨rfl,(Below.refl _ _).alloc (Nat.le_refl _) _⟩
 ·have hr:YA ⟨a,b⟩=false:=by simp only[YA,decide_eq_false_iff_not];omega
  rw[hr];clear hr
  go_enter Tryz.func138,Tryz.ntmps138
  go_wp2
  go_ret
  exact ⟨rfl,(Below.refl _ _).alloc (Nat.le_refl _) _⟩
end Go.Proofs.YtgmdimbiipemhaaGreatDoor
namespace Go.Proofs.YtgmdimbiipemhaaGreatDoor
open Go.RowKit Go.Deep
structure OpD where
 id:St
 d0:Int
 d1:Int
 d2:Int
 d3:Int
 d4:Int
 d5:Int
 d6:Int
 d7:Int
 kind:Int
 ref:St
 side:Int
 ch:Int
 under:St
 key:ByteArray
 name:ByteArray
 value:ByteArray
 fr:St
 fa:Bool
 tr:St
 ta:Bool
 deriving DecidableEq
def OpD.cells (x:OpD):List Value:=[.int .i64 x.id.n,.int .i64 x.id.r,.int .i64 x.d0,.int .i64 x.d1,.int .i64 x.d2,.int .i64 x.d3,.int .i64 x.d4,.int .i64 x.d5,.int .i64 x.d6,.int .i64 x.d7,.int .i64 x.kind,.int .i64 x.ref.n,.int .i64 x.ref.r,.int .i64 x.side,.int .i64 x.ch,.int .i64 x.under.n,.int .i64 x.under.r,.string x.key,.string x.name,.string x.value,.int .i64 x.fr.n,.int .i64 x.fr.r,.bool x.fa,.int .i64 x.tr.n,.int .i64 x.tr.r,.bool x.ta]
theorem OpD.len (x:OpD):x.cells.length=26:=rfl
theorem OpD.one (x:OpD):∀ u∈x.cells,u.oneCell'=true:=by
 intro u hu
 simp only[OpD.cells,List.mem_cons,List.not_mem_nil,or_false] at hu
 rcases hu with rfl|rfl|rfl|rfl|rfl|rfl|rfl|rfl|rfl|rfl|rfl|rfl|rfl|rfl|rfl|rfl|rfl|rfl|rfl|rfl|rfl|rfl|rfl|rfl|rfl|rfl <;> rfl
def OpD.val (x:OpD):Value:=.agg x.cells.toArray
def OpD.deps (x:OpD):List Int:=[x.d0,x.d1,x.d2,x.d3,x.d4,x.d5,x.d6,x.d7]
def Qu (ds:List Int) (s:St):Bool:=decide (0≤s.r∧s.r<8) && decide (s.n≤ds.getD s.r.toNat 0)
def OpD.may (x:OpD) (s:St):Bool:=YA s && Qu x.deps s
theorem S3 (w:World) (cs:List Value) (T:TypeId) (j:Nat) (u:Value) (h:cs[j]?=some u):(w.alloc (.cells cs.toArray T)).cell? ⟨w.heap.size,j,none⟩=some u:=by
 rw[World.cell?_alloc_at _ _ _ _ rfl,←h]
 simp
end Go.Proofs.YtgmdimbiipemhaaGreatDoor
namespace Go.Proofs.YtgmdimbiipemhaaGreatDoor
open Go
section
variable {P:Program} {ops:Array Oper} {Q:Exit→Act→World→Prop} {md:Region.Mode} {S:World→Prop} {Z:Nat→Bool}
def ZO (P:Program) (md:Region.Mode) (ops:Array Oper) (Q:Exit→Act→World→Prop) (S:World→Prop) (Z:Nat→Bool):Nat→Array Bool→Act→World→Prop
 | 0,listed,a,w=>Region.ready md ops listed=[]∧Q .normal a w
 | fuel+1,listed,a,w =>
  (Region.ready md ops listed=[]→Q .normal a w) ∧
  ∀ i∈Region.ready md ops listed,wpOp P ops Q i (fun a' w'=>(Z i=false→S w')∧ZO P md ops Q S Z fuel (listed.setIfInBounds i true) a' w') a w
theorem TD:∀ (fuel:Nat) (listed:Array Bool) (a:Act) (w:World),ZO P md ops Q S Z fuel listed a w→wpAny P md ops Q fuel listed a w
 | 0,_,_,_,h=>h
 | fuel+1,_,_,_,h=>⟨h.1,fun i hi=>wpOp_mono (fun a' w' h'=>TD fuel _ a' w' h'.2) (h.2 i hi)⟩
def Z5L (listed:Array Bool) (js:List Nat):Array Bool:=js.foldl (fun l j=>l.setIfInBounds j true) listed
theorem QD {k:Nat}:∀ (js:List Nat) (listed:Array Bool),(Z5L listed js).getD k true=false→listed.getD k true=false
 | [],_,h=>h
 | j :: js,listed,h=>by
  have h1:=QD js (listed.setIfInBounds j true) h
  by_cases hjk:j=k
  ·subst hjk
   by_cases hs:j<listed.size
   ·simp[hs] at h1
   ·simp[hs] at h1
  ·rwa [getD_set_ne true hjk] at h1
theorem Qr {k:Nat}:∀ (js:List Nat) (listed:Array Bool),k∉js→listed.getD k true=false→(Z5L listed js).getD k true=false
 | [],_,_,h=>h
 | j :: js,listed,hn,h=>Qr js _ (fun e=>hn (by simp[e])) (by rw[getD_set_ne true (fun e=>hn (by simp[e]))];exact h)
theorem Z5S {listed:Array Bool} {k:Nat} (h:listed.getD k true=false):listed.getD k false=false:=by
 by_cases hs:k<listed.size
 ·simp[hs] at h ⊢;exact h
 ·simp[hs] at h
def TP (md:Region.Mode) (ops:Array Oper) (i:Nat) (oi:Oper) (listed:Array Bool):Prop :=
 i∈Region.ready md ops listed∧∀ js,i∉js→∀ j oj,j∈Region.ready md ops (Z5L listed js)→j≠i→ops[j]?=some oj→(∀ e∈oj.after,Region.binds md e=true→e.on≠i)∧oi.apart ops oj=true
theorem TP.step {i j:Nat} {oi:Oper} {listed:Array Bool} (h:TP md ops i oi listed) (hj:j≠i):TP md ops i oi (listed.setIfInBounds j true) :=
 ⟨ready_mono h.1 (Ne.symm hj),fun js hn=>h.2 (j :: js) (by simp[hn,Ne.symm hj])⟩
theorem TP.of_free {i:Nat} {oi:Oper} {listed:Array Bool} (hi:ops[i]?=some oi) (hr:i∈Region.ready md ops listed) (hf:Region.free md ops listed i=true):TP md ops i oi listed:=by
 refine ⟨hr,fun js hn j oj hj hji hoj=>?_⟩
 obtain ⟨hun,o,ho,hall⟩:=mem_ready.1 hj
 rw[hoj] at ho
 cases ho
 have hno:∀ e∈oj.after,Region.binds md e=true→e.on≠i:=fun e he hb hei=>by
  have h1:=hall e he hb
  rw[hei,Z5S (Qr js listed hn (mem_ready.1 hr).1)] at h1
  cases h1
 exact ⟨hno,Region.free_spec hi hf j oj hoj hji (QD js listed hun) hno⟩
theorem Z4V {fuel:Nat} {listed:Array Bool} {a:Act} {w:World} (h:ZO P md ops Q S Z fuel listed a w) {j:Nat} (hj:j∈Region.ready md ops listed) :
  ∃ n,fuel=n+1∧wpOp P ops Q j (fun a' w'=>(Z j=false→S w')∧ZO P md ops Q S Z n (listed.setIfInBounds j true) a' w') a w:=by
 cases fuel with
 | zero=>exact absurd (h.1 ▸ hj:j∈[]) (by simp)
 | succ n=>exact ⟨n,rfl,h.2 j hj⟩
def Z2c (md:Region.Mode) (ops:Array Oper) (Z:Nat→Bool) (listed:Array Bool) (i:Nat):Bool :=
 (List.range ops.size).all fun j=>listed.getD j true || !Z j || (match ops[j]? with
  | some o=>o.after.any fun e=>Region.binds md e && e.on == i
  | none=>true)
theorem Z2E {i j:Nat} {oj:Oper} {listed:Array Bool} (h:Z2c md ops Z listed i=true) (hz:Z j=true) (hu:listed.getD j true=false) (hj:ops[j]?=some oj):∃ e∈oj.after,Region.binds md e=true∧e.on=i:=by
 have hjs:j<ops.size:=(Array.getElem?_eq_some_iff.1 hj).1
 have:=List.all_eq_true.1 h j (List.mem_range.2 hjs)
 rw[hz,hj,hu] at this
 simp only[Bool.not_true,Bool.false_or,Array.any_eq_true,Bool.and_eq_true,beq_iff_eq] at this
 obtain ⟨k,hk,h1,h2⟩:=this
 exact ⟨_,Array.getElem_mem hk,h1,h2⟩
theorem Z1E {i:Nat} {oi:Oper} {v:Value} (hi:ops[i]?=some oi)
  (hsel:∀ (j:Nat) (o:Oper) cs b,ops[j]?=some o→o.op≠.select cs b) (hQ:∀ c a w,Q (.panic c) (a.put oi.dst v) w→Q (.panic c) a w) (hiz:Z i=false) (fuel:Nat) :
  ∀ (listed:Array Bool) (a:Act) (w:World),(∀ j oj,Z j=true→listed.getD j true=false→ops[j]?=some oj→∃ e∈oj.after,Region.binds md e=true∧e.on=i)→TP md ops i oi listed→YieldsIf P ops S oi v a→S w →
   ZO P md ops Q S Z fuel (listed.setIfInBounds i true) (a.put oi.dst v) w→ZO P md ops Q S Z (fuel+1) listed a w:=by
 induction fuel using Nat.strongRecOn with
 | _ fuel ih =>
  intro listed a w hwait hA hy hS H
  refine ⟨fun h0=>absurd (h0 ▸ hA.1:i∈[]) (by simp),fun j hj=>?_⟩
  rcases Decidable.em (j=i) with hji|hji
  ·rw[hji]
   exact hy.wpOp hi hS ⟨fun _=>hS,H⟩
  ·obtain ⟨n,rfl,hop⟩:=Z4V H (ready_mono hj hji)
   obtain ⟨oj,hoj⟩:∃ oj,ops[j]?=some oj:=by
    obtain ⟨_,oj,hoj,_⟩:=mem_ready.1 hj
    exact ⟨oj,hoj⟩
   obtain ⟨hno,hap⟩:=hA.2 [] (by simp) j oj hj hji hoj
   have hjz:Z j=false:=by
    cases hz:Z j with
    | false=>rfl
    | true =>
     obtain ⟨e,he,hb,hei⟩:=hwait j oj hz (mem_ready.1 hj).1 hoj
     exact absurd hei (hno e he hb)
   refine wpOp_mono ?_ (wpOp_putIf hoj hap (fun cs b=>hsel i oi cs b hi) (fun cs b=>hsel j oj cs b hoj) hQ hy hop)
   rintro a' w' ⟨hy',hS',H'⟩
   rw[Array.setIfInBounds_comm _ _ (Ne.symm hji)] at H'
   exact ⟨hS',ih n (Nat.lt_succ_self n) _ a' w' (fun q oq hq hu=>hwait q oq hq (QD [j] listed hu)) (hA.step hji) hy' (hS' hjz) H'⟩
theorem Rf {i:Nat} {oi:Oper} {d:Option Tmp} {v:Value} {fuel:Nat} {listed:Array Bool} {a:Act} {w:World} (hi:ops[i]?=some oi) (hd:oi.dst=d) (hiz:Z i=false) (hwait:Z2c md ops Z listed i=true)
  (hs:Region.noSelect ops=true) (hf:Region.free md ops listed i=true) (hr:(Region.ready md ops listed).contains i=true)
  (hQ:∀ c a w,Q (.panic c) (a.put d v) w→Q (.panic c) a w) (hy:YieldsIf P ops S oi v a) (hS:S w)
  (h:ZO P md ops Q S Z fuel (listed.setIfInBounds i true) (a.put d v) w):ZO P md ops Q S Z (fuel+1) listed a w:=by
 subst hd
 exact Z1E hi (Region.noSelect_spec hs) hQ hiz fuel listed a w (fun j oj hz hu hj=>Z2E hwait hz hu hj) (TP.of_free hi (by simpa using hr) hf) hy hS h
theorem Ja:(∀ (T:Array Value) (D:List Deferred) (d:Tmp) (v:Value),Act.put ⟨T,D⟩ (some d) v=⟨T.setIfInBounds d v,D⟩)∧(∀ (a:Act) (v:Value),a.put none v=a)∧(∀ (l:List Value) (i:Nat) (a:Value),l.toArray.setIfInBounds i a=(l.set i a).toArray)∧(∀ (x:Value) (l:List Value) (y:Value),(x :: l).set 0 y=y :: l)∧(∀ (x:Value) (l:List Value) (i:Nat) (y:Value),(x :: l).set (i+1) y=x :: l.set i y) :=
 ⟨fun _ _ _ _=>rfl,fun _ _=>rfl,fun _ _ _=>List.setIfInBounds_toArray ..,fun _ _ _=>rfl,fun _ _ _ _=>rfl⟩
def Jd (md:Region.Mode) (ops:Array Oper) (Z:Nat→Bool) (listed:Array Bool) (i:Nat):Bool:=!Z i && (Z2c md ops Z listed i && (Region.noSelect ops && (Region.free md ops listed i && (Region.ready md ops listed).contains i)))
theorem JR (i t:Nat) (v:Value) {oi:Oper} {fuel:Nat} {listed:Array Bool} {a:Act} {w:World} (hi:ops[i]?=some oi) (hd:oi.dst=some t) (hS:S w) (hy:∀ W,S W→(execOp a.eval oi).run P W=.ok (.value v) W)
  (h:ZO P md ops Q S Z fuel (listed.setIfInBounds i true) (a.put (some t) v) w) (hk:Jd md ops Z listed i=true:=by kernel_rfl) (hQ:∀ c a w,Q (.panic c) (a.put (some t) v) w→Q (.panic c) a w:=by exact fun _ _ _ h=>h) (hw:Region.wanted oi (yielded ops a.tmps)=true:=by rfl):ZO P md ops Q S Z (fuel+1) listed a w:=by
 simp only[Jd,Bool.and_eq_true,Bool.not_eq_true'] at hk
 exact Rf hi hd hk.1 hk.2.1 hk.2.2.1 hk.2.2.2.1 hk.2.2.2.2 hQ (.inl ⟨hw,hy⟩) hS h
theorem J0 (i t:Nat) (v:Value) {oi:Oper} {fuel:Nat} {listed:Array Bool} {a:Act} {w:World} (hS:S w) (h:ZO P md ops Q S Z fuel (listed.setIfInBounds i true) (a.put (some t) v) w) (hi:ops[i]?=some oi:=by rfl) (hd:oi.dst=some t:=by rfl) (hy:∀ W,S W→(execOp a.eval oi).run P W=.ok (.value v) W:=by intro W hW;go_simp;try rfl)
  (hk:Jd md ops Z listed i=true:=by kernel_rfl) (hQ:∀ c a w,Q (.panic c) (a.put (some t) v) w→Q (.panic c) a w:=by exact fun _ _ _ h=>h) (hw:Region.wanted oi (yielded ops a.tmps)=true:=by rfl):ZO P md ops Q S Z (fuel+1) listed a w:=JR i t v hi hd hS hy h hk hQ hw
theorem J2 (i t:Nat) (v:Value) {oi:Oper} {fuel:Nat} {listed:Array Bool} {a:Act} {w:World} (hS:S w) (h:ZO P md ops Q S Z fuel (listed.setIfInBounds i true) (a.put (some t) v) w) (hi:ops[i]?=some oi:=by rfl) (hd:oi.dst=some t:=by rfl) (hy:∀ W,S W→(execOp a.eval oi).run P W=.ok (.value v) W:=by intro W hW;obtain ⟨q0,q1⟩:=hW;go_simp;try rfl)
  (hk:Jd md ops Z listed i=true:=by kernel_rfl) (hQ:∀ c a w,Q (.panic c) (a.put (some t) v) w→Q (.panic c) a w:=by exact fun _ _ _ h=>h) (hw:Region.wanted oi (yielded ops a.tmps)=true:=by rfl):ZO P md ops Q S Z (fuel+1) listed a w:=JR i t v hi hd hS hy h hk hQ hw
theorem J3 (i t:Nat) (v:Value) {oi:Oper} {fuel:Nat} {listed:Array Bool} {a:Act} {w:World} (hS:S w) (h:ZO P md ops Q S Z fuel (listed.setIfInBounds i true) (a.put (some t) v) w) (hi:ops[i]?=some oi:=by rfl) (hd:oi.dst=some t:=by rfl) (hy:∀ W,S W→(execOp a.eval oi).run P W=.ok (.value v) W:=by intro W hW;obtain ⟨q0,q1,q2⟩:=hW;go_simp;try rfl)
  (hk:Jd md ops Z listed i=true:=by kernel_rfl) (hQ:∀ c a w,Q (.panic c) (a.put (some t) v) w→Q (.panic c) a w:=by exact fun _ _ _ h=>h) (hw:Region.wanted oi (yielded ops a.tmps)=true:=by rfl):ZO P md ops Q S Z (fuel+1) listed a w:=JR i t v hi hd hS hy h hk hQ hw
theorem J4 (i t:Nat) (v:Value) {oi:Oper} {fuel:Nat} {listed:Array Bool} {a:Act} {w:World} (hS:S w) (h:ZO P md ops Q S Z fuel (listed.setIfInBounds i true) (a.put (some t) v) w) (hi:ops[i]?=some oi:=by rfl) (hd:oi.dst=some t:=by rfl) (hy:∀ W,S W→(execOp a.eval oi).run P W=.ok (.value v) W:=by intro W hW;obtain ⟨q0,q1,q2,q3⟩:=hW;go_simp;try rfl)
  (hk:Jd md ops Z listed i=true:=by kernel_rfl) (hQ:∀ c a w,Q (.panic c) (a.put (some t) v) w→Q (.panic c) a w:=by exact fun _ _ _ h=>h) (hw:Region.wanted oi (yielded ops a.tmps)=true:=by rfl):ZO P md ops Q S Z (fuel+1) listed a w:=JR i t v hi hd hS hy h hk hQ hw
theorem JO (i t:Nat) {oi:Oper} {fuel:Nat} {listed:Array Bool} {a:Act} {w:World} (hi:ops[i]?=some oi) (hd:oi.dst=some t) (hS:S w)
  (h:ZO P md ops Q S Z fuel (listed.setIfInBounds i true) (a.put (some t) undef) w) (hk:Jd md ops Z listed i=true:=by kernel_rfl) (hQ:∀ c a w,Q (.panic c) (a.put (some t) undef) w→Q (.panic c) a w:=by exact fun _ _ _ h=>h) (hw:Region.wanted oi (yielded ops a.tmps)=false:=by rfl):ZO P md ops Q S Z (fuel+1) listed a w:=by
 simp only[Jd,Bool.and_eq_true,Bool.not_eq_true'] at hk
 exact Rf hi hd hk.1 hk.2.1 hk.2.2.1 hk.2.2.2.1 hk.2.2.2.2 hQ (.inr ⟨hw,rfl⟩) hS h
theorem TN {i:Nat} {fuel:Nat} {listed:Array Bool} {a:Act} {w:World} (hr:Region.ready md ops listed=[i])
  (h:wpOp P ops Q i (fun a' w'=>(Z i=false→S w')∧ZO P md ops Q S Z fuel (listed.setIfInBounds i true) a' w') a w):ZO P md ops Q S Z (fuel+1) listed a w :=
 ⟨fun h0=>absurd (hr.symm.trans h0) (by simp),fun j hj=>by rw[hr] at hj;rw[List.mem_singleton.1 hj];exact h⟩
theorem Zk {i:Nat} {o:Oper} {d:Option Tmp} {fuel:Nat} {listed:Array Bool} {a:Act} {w w':World} (hr:Region.ready md ops listed=[i]) (ho:ops[i]?=some o) (hd:o.dst=d) (hw:Region.wanted o (yielded ops a.tmps)=true)
  (hv:(execOp a.eval o).run P w=.ok .skip w') (hS:Z i=false→S w') (h:ZO P md ops Q S Z fuel (listed.setIfInBounds i true) (a.put d undef) w'):ZO P md ops Q S Z (fuel+1) listed a w:=by
 subst hd
 exact TN hr (wpOp_step ho fun K' hK=>by
  rw[if_pos hw,Oper.wp,hv]
  exact hK _ _ ⟨hS,h⟩)
theorem Z3 {listed:Array Bool} {a:Act} {w:World} (hr:Region.ready md ops listed=[]) (h:Q .normal a w):∀ fuel,ZO P md ops Q S Z fuel listed a w
 | 0=>⟨hr,h⟩
 | _+1=>⟨fun _=>h,by rw[hr];simp⟩
theorem Z8 {id:Nat} {a:Act} {w:World} (S:World→Prop) (Z:Nat→Bool) (hm:P.follows .mixedOrders=true)
  (h:ZO P .any ops Q S Z ops.size (Array.replicate ops.size false) a w.drew):(Code.region id ops true).wp P Q a w :=
 wp_region_any hm (TD _ _ _ _ h)
end
end Go.Proofs.YtgmdimbiipemhaaGreatDoor
namespace Go.Proofs.YtgmdimbiipemhaaGreatDoor
open Go Go.RowKit Go.Deep
section
variable {P:Program} {ops:Array Oper} {Q:Exit→Act→World→Prop} {md:Region.Mode} {S:World→Prop} {Z:Nat→Bool}
theorem Zy {i:Nat} {o:Oper} {d:Option Tmp} {v:Value} {fuel:Nat} {listed:Array Bool} {a:Act} {w w':World} (hr:Region.ready md ops listed=[i]) (ho:ops[i]?=some o) (hd:o.dst=d) (hw:Region.wanted o (yielded ops a.tmps)=true)
  (hv:(execOp a.eval o).run P w=.ok (.value v) w') (hS:Z i=false→S w') (h:ZO P md ops Q S Z fuel (listed.setIfInBounds i true) (a.put d v) w'):ZO P md ops Q S Z (fuel+1) listed a w:=by
 subst hd
 exact TN hr (wpOp_step ho fun K' hK=>by
  rw[if_pos hw,Oper.wp,hv]
  exact hK _ _ ⟨hS,h⟩)
theorem Zw {i:Nat} {o:Oper} {d:Option Tmp} {f:FuncId} {args:Array Value} {fuel:Nat} {listed:Array Bool} {a:Act} {w w':World} (hr:Region.ready md ops listed=[i]) (ho:ops[i]?=some o) (hd:o.dst=d) (hw:Region.wanted o (yielded ops a.tmps)=true)
  (hv:(execOp a.eval o).run P w=.ok (.enter f args) w')
  (h:Calls P f args w' fun e w''=>∃ v,e=.returned v∧(Z i=false→S w'')∧ZO P md ops Q S Z fuel (listed.setIfInBounds i true) (a.put d v) w''):ZO P md ops Q S Z (fuel+1) listed a w:=by
 subst hd
 exact TN hr (wpOp_step ho fun K' hK=>by
  rw[if_pos hw,Oper.wp,hv,Oper.upon_enter]
  refine Calls.mono h ?_
  rintro e w'' ⟨v,rfl,h1,h2⟩
  exact hK _ _ ⟨h1,h2⟩)
theorem XI {o:Oper} {a:Act} {w w':World} {s x:Operand} {t tn:TypeId} {v vx v':Value} (hop:o.op=.call { callee:=.builtin .append,args:=#[s,x],argTypes:=#[t,tn] }) (hs:a.eval s=v) (hx:a.eval x=vx)
  (hr:(Builtin.append_ #[t,tn] o.type #[v,vx]).run P w=.ok v' w'):(execOp a.eval o).run P w=.ok (.value v') w':=by
 unfold execOp
 simp only[hop,resolve,invoke,builtin,Sem.run_bind,Sem.run_pure,Result.andThen_ok,List.map_toArray,List.map_cons,List.map_nil,hs,hx,hr]
end
end Go.Proofs.YtgmdimbiipemhaaGreatDoor
namespace Go.Proofs
open Go.Shelf
def Tryz.mulF_ren:Go.Shelf.Ren:=⟨fun|212=>204|263=>215|264=>216|n=>n,fun|46=>189|51=>199|146=>292|53=>97|148=>294|n=>n,fun|n=>n⟩
theorem Tryz.mulF:Go.Proofs.Lays.n212 Tryz.prog Tryz.mulF_ren:={
 mixed:=by kernel_rfl
 f212:=Tryz.func204.trans (congrArg some (by kernel_rfl))
 f263:=Tryz.func215.trans (congrArg some (by kernel_rfl))
 f264:=Tryz.func216.trans (congrArg some (by kernel_rfl))
 t46:=Tryz.underlying189
 a46:=Tryz.isAgg189
 z46:=Tryz.sizeOf189
 v46:=Tryz.zeroValue189
 t51:=Tryz.underlying199
 a51:=Tryz.isAgg199
 z51:=Tryz.sizeOf199
 v51:=Tryz.zeroValue199
 t53:=Tryz.underlying97
 a53:=Tryz.isAgg97
 z53:=Tryz.sizeOf97
 v53:=Tryz.zeroValue97
 t146:=Tryz.underlying292
 a146:=Tryz.isAgg292
 z146:=Tryz.sizeOf292
 v146:=Tryz.zeroValue292
 t148:=Tryz.underlying294
 a148:=Tryz.isAgg294
 z148:=Tryz.sizeOf294
 v148:=Tryz.zeroValue294 }
def Tryz.minF_ren:Go.Shelf.Ren:=⟨fun|114=>139|n=>n,fun|28=>100|3=>3|4=>4|9=>9|20=>20|0=>0|n=>n,fun|n=>n⟩
theorem Tryz.minF:Go.Proofs.Lays.n114 Tryz.prog Tryz.minF_ren:={
 mixed:=by kernel_rfl
 f114:=Tryz.func139.trans (congrArg some (by kernel_rfl))
 t0:=Tryz.underlying0
 a0:=Tryz.isAgg0
 z0:=Tryz.sizeOf0
 v0:=Tryz.zeroValue0
 t3:=Tryz.underlying3
 a3:=Tryz.isAgg3
 z3:=Tryz.sizeOf3
 v3:=Tryz.zeroValue3
 t4:=Tryz.underlying4
 a4:=Tryz.isAgg4
 z4:=Tryz.sizeOf4
 v4:=Tryz.zeroValue4
 t9:=Tryz.underlying9
 a9:=Tryz.isAgg9
 z9:=Tryz.sizeOf9
 v9:=Tryz.zeroValue9
 t20:=Tryz.underlying20
 a20:=Tryz.isAgg20
 z20:=Tryz.sizeOf20
 v20:=Tryz.zeroValue20
 t28:=Tryz.underlying100
 a28:=Tryz.isAgg100
 z28:=Tryz.sizeOf100
 v28:=Tryz.zeroValue100 }
def Tryz.maxF_ren:Go.Shelf.Ren:=⟨fun|113=>174|n=>n,fun|28=>100|3=>3|4=>4|9=>9|20=>20|0=>0|n=>n,fun|n=>n⟩
theorem Tryz.maxF:Go.Proofs.Lays.n113 Tryz.prog Tryz.maxF_ren:={
 mixed:=by kernel_rfl
 f113:=Tryz.func174.trans (congrArg some (by kernel_rfl))
 t0:=Tryz.underlying0
 a0:=Tryz.isAgg0
 z0:=Tryz.sizeOf0
 v0:=Tryz.zeroValue0
 t3:=Tryz.underlying3
 a3:=Tryz.isAgg3
 z3:=Tryz.sizeOf3
 v3:=Tryz.zeroValue3
 t4:=Tryz.underlying4
 a4:=Tryz.isAgg4
 z4:=Tryz.sizeOf4
 v4:=Tryz.zeroValue4
 t9:=Tryz.underlying9
 a9:=Tryz.isAgg9
 z9:=Tryz.sizeOf9
 v9:=Tryz.zeroValue9
 t20:=Tryz.underlying20
 a20:=Tryz.isAgg20
 z20:=Tryz.sizeOf20
 v20:=Tryz.zeroValue20
 t28:=Tryz.underlying100
 a28:=Tryz.isAgg100
 z28:=Tryz.sizeOf100
 v28:=Tryz.zeroValue100 }
def Tryz.cloneF_ren:Go.Shelf.Ren:=⟨fun|15=>146|n=>n,fun|22=>100|3=>3|4=>4|n=>n,fun|n=>n⟩
theorem Tryz.cloneF:Go.Proofs.Lays2.n15 Tryz.prog Tryz.cloneF_ren:={
 mixed:=by kernel_rfl
 f15:=Tryz.func146.trans (congrArg some (by kernel_rfl))
 t3:=Tryz.underlying3
 a3:=Tryz.isAgg3
 z3:=Tryz.sizeOf3
 v3:=Tryz.zeroValue3
 t4:=Tryz.underlying4
 a4:=Tryz.isAgg4
 z4:=Tryz.sizeOf4
 v4:=Tryz.zeroValue4
 t22:=Tryz.underlying100
 a22:=Tryz.isAgg100
 z22:=Tryz.sizeOf100
 v22:=Tryz.zeroValue100
 i3:=by kernel_rfl }
def Tryz.sufF_ren:Go.Shelf.Ren:=⟨fun|100=>177|207=>203|n=>n,fun|9=>9|4=>4|3=>3|n=>n,fun|n=>n⟩
theorem Tryz.sufF:Go.Proofs.Lays.n100 Tryz.prog Tryz.sufF_ren:={
 mixed:=by kernel_rfl
 f100:=Tryz.func177.trans (congrArg some (by kernel_rfl))
 f207:=Tryz.func203.trans (congrArg some (by kernel_rfl))
 t3:=Tryz.underlying3
 a3:=Tryz.isAgg3
 z3:=Tryz.sizeOf3
 v3:=Tryz.zeroValue3
 t4:=Tryz.underlying4
 a4:=Tryz.isAgg4
 z4:=Tryz.sizeOf4
 v4:=Tryz.zeroValue4
 t9:=Tryz.underlying9
 a9:=Tryz.isAgg9
 z9:=Tryz.sizeOf9
 v9:=Tryz.zeroValue9 }
def Tryz.trimF_ren:Go.Shelf.Ren:=⟨fun|160=>176|232=>197|231=>196|227=>198|234=>200|233=>199|236=>202|235=>201|228=>211|271=>214|151=>213|197=>212|120=>220|152=>219|260=>218|137=>221|119=>222|224=>223|225=>224|217=>225|266=>226|n=>n,fun|9=>9|4=>4|3=>3|5=>5|117=>277|116=>276|0=>0|124=>280|21=>21|105=>289|46=>189|119=>300|139=>303|138=>302|n=>n,fun|3=>2|4=>3|n=>n⟩
theorem Tryz.trimF:Go.Proofs.Lays.n160 Tryz.prog Tryz.trimF_ren:={
 mixed:=by kernel_rfl
 f119:=Tryz.func222.trans (congrArg some (by kernel_rfl))
 f120:=Tryz.func220.trans (congrArg some (by kernel_rfl))
 f137:=Tryz.func221.trans (congrArg some (by kernel_rfl))
 f151:=Tryz.func213.trans (congrArg some (by kernel_rfl))
 f152:=Tryz.func219.trans (congrArg some (by kernel_rfl))
 f160:=Tryz.func176.trans (congrArg some (by kernel_rfl))
 f197:=Tryz.func212.trans (congrArg some (by kernel_rfl))
 f217:=Tryz.func225.trans (congrArg some (by kernel_rfl))
 f224:=Tryz.func223.trans (congrArg some (by kernel_rfl))
 f225:=Tryz.func224.trans (congrArg some (by kernel_rfl))
 f227:=Tryz.func198.trans (congrArg some (by kernel_rfl))
 f228:=Tryz.func211.trans (congrArg some (by kernel_rfl))
 f231:=Tryz.func196.trans (congrArg some (by kernel_rfl))
 f232:=Tryz.func197.trans (congrArg some (by kernel_rfl))
 f233:=Tryz.func199.trans (congrArg some (by kernel_rfl))
 f234:=Tryz.func200.trans (congrArg some (by kernel_rfl))
 f235:=Tryz.func201.trans (congrArg some (by kernel_rfl))
 f236:=Tryz.func202.trans (congrArg some (by kernel_rfl))
 f260:=Tryz.func218.trans (congrArg some (by kernel_rfl))
 f266:=Tryz.func226.trans (congrArg some (by kernel_rfl))
 f271:=Tryz.func214.trans (congrArg some (by kernel_rfl))
 t0:=Tryz.underlying0
 a0:=Tryz.isAgg0
 z0:=Tryz.sizeOf0
 v0:=Tryz.zeroValue0
 t3:=Tryz.underlying3
 a3:=Tryz.isAgg3
 z3:=Tryz.sizeOf3
 v3:=Tryz.zeroValue3
 t4:=Tryz.underlying4
 a4:=Tryz.isAgg4
 z4:=Tryz.sizeOf4
 v4:=Tryz.zeroValue4
 t5:=Tryz.underlying5
 a5:=Tryz.isAgg5
 z5:=Tryz.sizeOf5
 v5:=Tryz.zeroValue5
 t9:=Tryz.underlying9
 a9:=Tryz.isAgg9
 z9:=Tryz.sizeOf9
 v9:=Tryz.zeroValue9
 t21:=Tryz.underlying21
 a21:=Tryz.isAgg21
 z21:=Tryz.sizeOf21
 v21:=Tryz.zeroValue21
 t46:=Tryz.underlying189
 a46:=Tryz.isAgg189
 z46:=Tryz.sizeOf189
 v46:=Tryz.zeroValue189
 t105:=Tryz.underlying289
 a105:=Tryz.isAgg289
 z105:=Tryz.sizeOf289
 v105:=Tryz.zeroValue289
 t116:=Tryz.underlying276
 a116:=Tryz.isAgg276
 z116:=Tryz.sizeOf276
 t117:=Tryz.underlying277
 a117:=Tryz.isAgg277
 z117:=Tryz.sizeOf277
 v117:=Tryz.zeroValue277
 t119:=Tryz.underlying300
 a119:=Tryz.isAgg300
 z119:=Tryz.sizeOf300
 t124:=Tryz.underlying280
 a124:=Tryz.isAgg280
 z124:=Tryz.sizeOf280
 v124:=Tryz.zeroValue280
 t138:=Tryz.underlying302
 a138:=Tryz.isAgg302
 z138:=Tryz.sizeOf302
 v138:=Tryz.zeroValue302
 t139:=Tryz.underlying303
 a139:=Tryz.isAgg303
 z139:=Tryz.sizeOf303
 v139:=Tryz.zeroValue303
 g3:=by kernel_rfl
 g4:=by kernel_rfl }
end Go.Proofs
namespace Go.Proofs.YtgmdimbiipemhaaGreatDoor
open Go.RowKit Go.Deep
open Go.Shelf
theorem Z0f (n r:Int) (w:World):Calls Tryz.prog 195 #[.agg #[.int .i64 n,.int .i64 r]] w fun e w'=>e=.returned (.bool (decide (0≤r∧r<8)))∧Below w.heap.size w w':=by
 by_cases h3:0≤r
 ·by_cases h4:r<8
  ·rw[decide_eq_true ⟨h3,h4⟩]
   go_enter Tryz.func195,Tryz.ntmps195
   go_wp2
   go_ret
   exact ⟨rfl,(Below.refl _ _).alloc (Nat.le_refl _) _⟩
  ·rw[decide_eq_false (fun h=>h4 h.2)]
   go_enter Tryz.func195,Tryz.ntmps195
   go_wp2
   go_ret
   exact ⟨rfl,(Below.refl _ _).alloc (Nat.le_refl _) _⟩
 ·rw[decide_eq_false (fun h=>h3 h.1)]
  go_enter Tryz.func195,Tryz.ntmps195
  go_wp2
  go_ret
  exact ⟨rfl,(Below.refl _ _).alloc (Nat.le_refl _) _⟩
theorem Z6t (d0 d1 d2 d3 d4 d5 d6 d7 n r:Int) (w:World):Calls Tryz.prog 175 #[.agg #[.int .i64 d0,.int .i64 d1,.int .i64 d2,.int .i64 d3,.int .i64 d4,.int .i64 d5,.int .i64 d6,.int .i64 d7],.agg #[.int .i64 n,.int .i64 r]] w fun e w'=>e=.returned (.bool (Qu [d0,d1,d2,d3,d4,d5,d6,d7] ⟨n,r⟩))∧Below w.heap.size w w':=by
 have HDS:∀ k:Nat,k<8→([.int .i64 d0,.int .i64 d1,.int .i64 d2,.int .i64 d3,.int .i64 d4,.int .i64 d5,.int .i64 d6,.int .i64 d7]:List Value)[k]?=some (.int .i64 (([d0,d1,d2,d3,d4,d5,d6,d7]:List Int).getD k 0)):=fun k hk=>by
  match k,hk with
  | 0,_=>rfl
  | 1,_=>rfl
  | 2,_=>rfl
  | 3,_=>rfl
  | 4,_=>rfl
  | 5,_=>rfl
  | 6,_=>rfl
  | 7,_=>rfl
 obtain ⟨W0,hW0⟩:=Je ((w.alloc (.cells #[.int .i64 d0,.int .i64 d1,.int .i64 d2,.int .i64 d3,.int .i64 d4,.int .i64 d5,.int .i64 d6,.int .i64 d7] 32)).alloc (.cells #[.int .i64 n,.int .i64 r] 62))
 have HB:Hid (Below w.heap.size w W0.drew):=Jh (by rw[←hW0];exact (((Below.refl _ _).alloc (Nat.le_refl _) _).alloc (by simp) _).drew)
 have hc0:W0.cell? ⟨w.heap.size+1,0,none⟩=some (.int .i64 n):=by rw[←hW0];clear hW0;go_simp
 have hc1:W0.cell? ⟨w.heap.size+1,1,none⟩=some (.int .i64 r):=by rw[←hW0];clear hW0;go_simp
 have hcd:∀ k:Nat,k<8→W0.cell? ⟨w.heap.size,k,none⟩=some (.int .i64 (([d0,d1,d2,d3,d4,d5,d6,d7]:List Int).getD k 0)):=fun k hk=>by
  rw[←hW0]
  exact Zo (S3 w [.int .i64 d0,.int .i64 d1,.int .i64 d2,.int .i64 d3,.int .i64 d4,.int .i64 d5,.int .i64 d6,.int .i64 d7] _ k _ (HDS k hk)) _
 have HCD:=Lib.hid hcd
 have HW:=Lib.hid hW0
 clear hcd HDS hW0
 by_cases hr:0≤r∧r<8
 ·obtain ⟨k,rfl⟩:∃ k:Nat,r=(k:Int):=⟨r.toNat,by omega⟩
  have hk:k<8:=by omega
  have hck:=HCD.out k hk
  obtain ⟨dk,hdk⟩:=Je (([d0,d1,d2,d3,d4,d5,d6,d7]:List Int).getD k 0)
  rw[hdk] at hck
  have hR:Qu [d0,d1,d2,d3,d4,d5,d6,d7] ⟨n,k⟩=decide (n≤dk):=by unfold Qu;rw[decide_eq_true hr,Bool.true_and,←hdk];rfl
  have hK:decide ((0:Int)≤(k:Int)∧(k:Int)<8)=true:=decide_eq_true hr
  rw[hR]
  have hk8:(k:Int)<8:=by omega
  have hk0:¬ (k:Int)<0:=by omega
  have hk1:(0:Int)≤(k:Int):=by omega
  obtain ⟨db,hdb⟩:=Je (decide (n≤dk))
  rw[hdb]
  have HDB:=Lib.hid hdb
  clear hdb hR hdk hr hk
  go_enter Tryz.func175,Tryz.ntmps175
  go_upto_region 1 with fail
  rw[HW.out]
  have hS0:(fun W:World=>W.cell? ⟨w.heap.size+1,0,none⟩=some (.int .i64 n)∧W.cell? ⟨w.heap.size+1,1,none⟩=some (.int .i64 k)∧W.cell? ⟨w.heap.size,k,none⟩=some (.int .i64 dk)) W0.drew:=⟨hc0,hc1,hck⟩
  clear hc0 hc1 hck HCD HW
  refine Z8 (fun W:World=>W.cell? ⟨w.heap.size+1,0,none⟩=some (.int .i64 n)∧W.cell? ⟨w.heap.size+1,1,none⟩=some (.int .i64 k)∧W.cell? ⟨w.heap.size,k,none⟩=some (.int .i64 dk)) (fun _=>false) (by kernel_rfl) ?_
  generalize W0.drew=W1 at hS0 HB ⊢
  refine J3 0 5 (.agg #[.int .i64 n,.int .i64 k]) hS0 ?_
  try simp only[Ja]
  refine Zw (i:=1) (d:=some 6) (f:=195) (args:=#[.agg #[.int .i64 n,.int .i64 k]]) (w':=W1) (by kernel_rfl) rfl rfl (by rfl) (by go_simp;try rfl) ?_
  refine (Z0f n k W1).mono ?_
  rintro e w5 ⟨rfl,b5⟩
  rw[hK]
  have hS5:(fun W:World=>W.cell? ⟨w.heap.size+1,0,none⟩=some (.int .i64 n)∧W.cell? ⟨w.heap.size+1,1,none⟩=some (.int .i64 k)∧W.cell? ⟨w.heap.size,k,none⟩=some (.int .i64 dk)) w5:=⟨Zp b5 hS0.1,Zp b5 hS0.2.1,Zp b5 hS0.2.2⟩
  refine ⟨_,rfl,fun _=>hS5,?_⟩
  try simp only[Ja]
  refine J3 2 7 _ hS5 ?_
  try simp only[Ja]
  refine J3 3 8 _ hS5 ?_
  try simp only[Ja]
  refine J3 4 9 (.int .i64 k) hS5 ?_
  try simp only[Ja]
  refine J3 5 10 (.pointer (some ⟨w.heap.size,k,none⟩)) hS5 ?_
  try simp only[Ja]
  refine J3 6 11 (.int .i64 dk) hS5 ?_
  try simp only[Ja]
  refine J3 7 12 _ hS5 ?_
  try simp only[Ja]
  refine J3 8 13 (.int .i64 n) hS5 ?_
  try simp only[Ja]
  refine JR 9 14 (.bool db) rfl rfl hS5 (fun W hW=>by obtain ⟨q0,q1,q2⟩:=hW;have hdb:=HDB.out;go_simp;try rfl) ?_
  try simp only[Ja]
  refine J3 10 15 (.bool db) hS5 ?_
  try simp only[Ja]
  refine J3 11 4 (.bool db) hS5 ?_
  try simp only[Ja]
  refine Z3 (by kernel_rfl) ?_ _
  go_wp2_with fail
  go_ret
  exact ⟨rfl,HB.out.trans (b5.mono HB.out.size)⟩
 ·have hK:decide (0≤r∧r<8)=false:=decide_eq_false hr
  have hR:Qu [d0,d1,d2,d3,d4,d5,d6,d7] ⟨n,r⟩=false:=by unfold Qu;rw[decide_eq_false hr];rfl
  rw[hR]
  clear hR hr
  go_enter Tryz.func175,Tryz.ntmps175
  go_upto_region 1 with fail
  rw[HW.out]
  have hS0:(fun W:World=>W.cell? ⟨w.heap.size+1,0,none⟩=some (.int .i64 n)∧W.cell? ⟨w.heap.size+1,1,none⟩=some (.int .i64 r)∧True) W0.drew:=⟨hc0,hc1,trivial⟩
  clear hc0 hc1 HCD HW
  refine Z8 (fun W:World=>W.cell? ⟨w.heap.size+1,0,none⟩=some (.int .i64 n)∧W.cell? ⟨w.heap.size+1,1,none⟩=some (.int .i64 r)∧True) (fun _=>false) (by kernel_rfl) ?_
  generalize W0.drew=W1 at hS0 HB ⊢
  refine J3 0 5 (.agg #[.int .i64 n,.int .i64 r]) hS0 ?_
  try simp only[Ja]
  refine Zw (i:=1) (d:=some 6) (f:=195) (args:=#[.agg #[.int .i64 n,.int .i64 r]]) (w':=W1) (by kernel_rfl) rfl rfl (by rfl) (by go_simp;try rfl) ?_
  refine (Z0f n r W1).mono ?_
  rintro e w5 ⟨rfl,b5⟩
  rw[hK]
  have hS5:(fun W:World=>W.cell? ⟨w.heap.size+1,0,none⟩=some (.int .i64 n)∧W.cell? ⟨w.heap.size+1,1,none⟩=some (.int .i64 r)∧True) w5:=⟨Zp b5 hS0.1,Zp b5 hS0.2.1,trivial⟩
  refine ⟨_,rfl,fun _=>hS5,?_⟩
  try simp only[Ja]
  refine J3 2 7 _ hS5 ?_
  try simp only[Ja]
  refine JO 3 8 rfl rfl hS5 ?_
  try simp only[Ja]
  refine JO 4 9 rfl rfl hS5 ?_
  try simp only[Ja]
  refine JO 5 10 rfl rfl hS5 ?_
  try simp only[Ja]
  refine JO 6 11 rfl rfl hS5 ?_
  try simp only[Ja]
  refine JO 7 12 rfl rfl hS5 ?_
  try simp only[Ja]
  refine JO 8 13 rfl rfl hS5 ?_
  try simp only[Ja]
  refine JO 9 14 rfl rfl hS5 ?_
  try simp only[Ja]
  refine J3 10 15 (.bool false) hS5 ?_
  try simp only[Ja]
  refine J3 11 4 (.bool false) hS5 ?_
  try simp only[Ja]
  refine Z3 (by kernel_rfl) ?_ _
  go_wp2_with fail
  go_ret
  exact ⟨rfl,HB.out.trans (b5.mono HB.out.size)⟩
def WP (ds:List Int):Int:=Lib.maxOf ds
theorem Z5R (d0 d1 d2 d3 d4 d5 d6 d7:Int) (w:World):Calls Tryz.prog 140 #[.agg #[.int .i64 d0,.int .i64 d1,.int .i64 d2,.int .i64 d3,.int .i64 d4,.int .i64 d5,.int .i64 d6,.int .i64 d7]] w fun e w'=>e=.returned (.int .i64 (WP [d0,d1,d2,d3,d4,d5,d6,d7]))∧Below w.heap.size w w':=by
 obtain ⟨W0,hW0⟩:=Je (w.alloc (.cells #[.int .i64 d0,.int .i64 d1,.int .i64 d2,.int .i64 d3,.int .i64 d4,.int .i64 d5,.int .i64 d6,.int .i64 d7] 32))
 have HB:Hid (Below w.heap.size w W0):=Jh (by rw[←hW0];exact ((Below.refl _ _).alloc (Nat.le_refl _) _))
 have hcon:=Any.slices_Max_int Tryz.maxF w.heap.size 0 8 8 [d0,d1,d2,d3,d4,d5,d6,d7] W0 (by omega) (by simp) (by omega) (fun j hj=>by
  rw[←hW0,Nat.zero_add]
  refine S3 w [.int .i64 d0,.int .i64 d1,.int .i64 d2,.int .i64 d3,.int .i64 d4,.int .i64 d5,.int .i64 d6,.int .i64 d7] _ j _ ?_
  match j,hj with
  | 0,_=>rfl
  | 1,_=>rfl
  | 2,_=>rfl
  | 3,_=>rfl
  | 4,_=>rfl
  | 5,_=>rfl
  | 6,_=>rfl
  | 7,_=>rfl)
 have HC:=Jh (show Calls Tryz.prog 174 #[.slice (some ⟨w.heap.size,0,none⟩) 8 8] W0 fun e w'=>e=.returned (.int .i64 (WP [d0,d1,d2,d3,d4,d5,d6,d7]))∧w'=W0 from hcon)
 have HW:=Lib.hid hW0
 clear hcon hW0
 go_enter Tryz.func140,Tryz.ntmps140
 go_wp2_with fail
 rw[HW.out]
 refine HC.out.mono ?_
 rintro e w5 ⟨rfl,e5⟩
 rw[e5]
 go_wp2_with fail
 go_ret
 exact ⟨rfl,HB.out⟩
end Go.Proofs.YtgmdimbiipemhaaGreatDoor
