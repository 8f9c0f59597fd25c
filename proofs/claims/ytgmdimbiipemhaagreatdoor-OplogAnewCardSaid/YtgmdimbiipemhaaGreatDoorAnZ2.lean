/- OplogAnew, part 2 of what the proof leans on (made short by a program). -/
import Derived.Test.YtgmdimbiipemhaaGreatDoorAnZ1
import Derived.Shelf.SlIter.Nil
import Derived.Shelf.SortM.Plain
import Derived.Shelf.SortM.SortNone
import Derived.Shelf.SlMaps.Clone
import Derived.Lib.AppendZerosOnto
import Derived.Shelf.Bits.Mul64
import Derived.Shelf.Slices.Turned
import Derived.Shelf.Slices.Clone
import Derived.Shelf.Strings.Prefix
import Derived.Shelf.Strings.SlTrimAscii
import Derived.Laws.CopyOwn
set_option linter.unusedSimpArgs false
set_option linter.unusedVariables false
set_option linter.unusedSectionVars false
set_option maxRecDepth 20000
set_option maxHeartbeats 30000000
namespace Go.Proofs.YtgmdimbiipemhaaGreatDoor
open Go.RowKit Go.Deep
def Zu (ps:List PcA):List UInt8:=ps.flatMap (·.bs)
theorem VT (ps:List PcA):(Zu ps).length=ZQ ps:=by simp[Zu,ZQ,List.length_flatMap]
theorem Z3T {ps:List PcA} {k:Nat} {p:PcA} (h:ps[k]?=some p):Zu (ps.take (k+1))=Zu (ps.take k)++p.bs:=by
 unfold Zu
 rw[List.take_add_one,h,Option.toList_some,List.flatMap_append]
 simp
theorem Z4N (ps:List PcA) (k:Nat):ZQ (ps.take k)≤ZQ ps:=by
 unfold ZQ
 conv=>rhs;rw[←List.take_append_drop k ps]
 rw[List.map_append,List.sum_append]
 omega
theorem Z5P {ps:List PcA} {k:Nat} {p:PcA} (h:ps[k]?=some p):ZQ (ps.take k)+p.bs.length≤ZQ ps:=by
 have:=Z4N ps (k+1)
 rw[List.take_add_one,h,Option.toList_some,SM] at this
 exact this
def SG (base:Nat) (w:World) (D:DSh) (A:Z4) (name:ByteArray) (e:Ending) (w':World):Prop :=
 (Zb A.files name=none∧e=.returned (.tuple #[.slice none 0 0,.int .i64 61])∧w'=w) ∨
 (∃ f v,Zb A.files name=some f∧e=.returned (.tuple #[v,.int .i64 0])∧Own u8c 1 5 w.heap.size w' v (Zu (A.fs f))∧Below w.heap.size w w')
theorem Qv {base:Nat} {w:World} {D:DSh} {A:Z4} (h:Zd base w D A) (name:ByteArray) {N:Nat} (hsm:A.Small N) (hN:N≤1000000000) :
  Calls Tryz.prog 35 #[.pointer (some ⟨D.pb,0,none⟩),.string name] w fun e w'=>SG base w D A name e w':=by
 obtain ⟨i0,hi,hz0,hz1,hz2⟩:=info_parts YO
 go_enter Tryz.func35,Tryz.ntmps35
 go_wp2_with fail
 refine (UJ h name).mono ?_
 rintro e w1 ⟨rfl,rfl⟩
 unfold Sx
 cases hg:Zb A.files name with
 | none =>
  simp only[Option.isSome_none,WC,Option.map_none]
  have HH:=Lib.hid h
  clear h
  go_wp2
  refine bodyPost_ret (results_tmp2 rfl _ _ _) rfl ?_
  exact .inl ⟨hg,rfl,rfl⟩
 | some f =>
  simp only[Option.isSome_some,WC,Option.map_some,if_true]
  have hf:=(h.ok.inf _ _ (UT hg)).1
  have hsz:=h.ok.sz f hf
  have HG:=Lib.hid hg
  have hF3:=h.file f hf
  obtain ⟨hbf,hfb3,qs,hqo,hql,hqp⟩:=id hF3
  obtain ⟨va,vcap,hvc⟩:∃ va vcap,D.rv f=.slice va qs.length vcap:=by
   rcases hqo.eq_slice with ⟨e,e2⟩|⟨g,c,e,_⟩
   ·exact ⟨none,0,by rw[e,e2];rfl⟩
   ·exact ⟨_,_,e⟩
  have hlq:qs.length≤1000000001:=by have:=hsm.pcs f hf;omega
  have f0:=Joins.cell_of_block hfb3 0
  simp only[List.getElem?_toArray,List.getElem?_cons_succ,List.getElem?_cons_zero,hvc] at f0
  have HVC:=Lib.hid hvc
  have HQO:=Lib.hid hqo
  have HQP:=Lib.hid hqp
  have HQL:=Lib.hid hql
  clear h hF3 hfb3 hqo hql hqp hvc hsm hf hg
  go_wp2_with fail
  go_loopg [8,25] qs.length (fun g vv iv wr=>∃ (k:Nat) (s:Sl),g=qs.length - k∧k≤qs.length∧vv=.slice s.a s.n s.cap∧iv=.int .i64 k∧Hid (Own u8c 1 5 w1.heap.size wr (.slice s.a s.n s.cap) (Zu ((A.fs f).take k))∧Below w1.heap.size w1 wr))
  case atStart=>exact ⟨0,⟨none,0,0⟩,by omega,by omega,rfl,rfl,Lib.hid ⟨by simp only[List.take_zero];exact Own.nil,Below.refl _ _⟩⟩
  case round =>
   obtain ⟨k,⟨sa,sn,sc⟩,hg,hk,rfl,rfl,hU⟩:=hrel
   dsimp only at hU ⊢
   have HGG:=Lib.hid hg
   clear hg
   by_cases hkl:k<qs.length
   ·obtain ⟨q,hq⟩:∃ q,qs[k]?=some q:=⟨_,List.getElem?_eq_getElem hkl⟩
    obtain ⟨p,hp⟩:∃ p,(A.fs f)[k]?=some p:=⟨_,List.getElem?_eq_getElem (by rw[←HQL.out];exact hkl)⟩
    obtain ⟨⟨qa,qn,qc⟩,qcame,qsafe⟩:=q
    have ho:=HQO.out
    rw[HVC.out] at ho
    obtain ⟨g,e1⟩:∃ g,va=some ⟨g,0,none⟩:=by
     rcases ho.eq_slice with ⟨_,e2⟩|⟨g,c,e,_⟩
     ·rw[e2] at hkl;simp at hkl
     ·cases e;exact ⟨g,rfl⟩
    subst e1
    have q0:=Y9 hU.out.2 (ho.cellAt Pc.len hq (j:=0) rfl)
    have q1:=Y9 hU.out.2 (ho.cellAt Pc.len hq (j:=1) rfl)
    have q2:=Y9 hU.out.2 (ho.cellAt Pc.len hq (j:=2) rfl)
    simp only[Nat.add_zero] at q0
    have hkk:(k:Int)<(qs.length:Int):=by omega
    have hsl:=((HQP.out k _ _ hq hp).1.slice Z7).below hU.out.2
    have hb1:=Z5P hp
    have hal:Below wr.heap.size wr (wr.alloc (.cells #[.slice qa qn qc,.int .i64 qcame,.int .i64 qsafe] 131)):=(Below.refl _ _).alloc (Nat.le_refl _) _
    have hbl:=VT ((A.fs f).take k)
    obtain ⟨v',w',hr,hown,hx'⟩:=Yl (P:=Tryz.prog) 22 22 i0 _ 1 Tryz.underlying22 hi hz0 hz1 hz2 rfl (by omega) Z7 Wt (hU.out.1.alloc _) (hsl.below hal) (by unfold maxLen;omega) (by omega) (by have:=hU.out.2.size;simp;omega)
    rw[←Z3T hp] at hown
    have hB:=Ext.new (hU.out.2.alloc hU.out.2.size (.cells #[.slice qa qn qc,.int .i64 qcame,.int .i64 qsafe] 131)) hx' (fun i hi _ e=>by have:=(hU.out.1.blk i e).1;omega) (by have:=hU.out.2.size;simp;omega)
    obtain ⟨s',hs'⟩:=hown.slv
    subst hs'
    change (Builtin.append_ _ _ _).run _ _=.ok (.slice s'.a s'.n s'.cap) w' at hr
    have HR:=Lib.hid hr
    have HN:=Jh (And.intro hown hB)
    clear ho hU hq hp hsl hb1 hal hbl hr hown hx' hB
    go_wp2_with (at_builtin;refine YR rfl _ _ _ rfl rfl rfl HR.out ?_)
    go_roundg (qs.length - (k+1))
    case measure=>rw[HGG.out];omega
    case rel=>exact ⟨k+1,s',rfl,by omega,rfl,by simp,HN⟩
   ·obtain rfl:k=qs.length:=by omega
    have hown:=hU.out.1
    rw[HQL.out,List.take_length] at hown
    have HN:=Jh (And.intro hown hU.out.2)
    clear hU hown
    go_wp2
    refine bodyPost_ret (results_tmp2 rfl _ _ _) rfl ?_
    exact .inr ⟨f,_,HG.out,rfl,HN.out.1,HN.out.2⟩
end Go.Proofs.YtgmdimbiipemhaaGreatDoor
namespace Go.Proofs
open Go.Shelf
def Tryz.keysF_ren:Go.Shelf.Ren:=⟨fun|7=>80|10=>127|n=>n,fun|23=>115|26=>9|3=>120|28=>142|0=>0|27=>141|33=>119|4=>4|n=>n,fun|n=>n⟩
theorem Tryz.keysF:Go.Proofs.SlLaysZ.n7 Tryz.prog Tryz.keysF_ren:={
 mixed:=by kernel_rfl
 f7:=⟨Tryz.f80.name,by decide,Tryz.func80.trans (congrArg some (by kernel_rfl))⟩
 f10:=⟨Tryz.f127.name,by decide,Tryz.func127.trans (congrArg some (by kernel_rfl))⟩
 t0:=Tryz.underlying0
 a0:=Tryz.isAgg0
 z0:=Tryz.sizeOf0
 v0:=Tryz.zeroValue0
 t4:=Tryz.underlying4
 a4:=Tryz.isAgg4
 z4:=Tryz.sizeOf4
 v4:=Tryz.zeroValue4
 t23:=Tryz.underlying115
 a23:=Tryz.isAgg115
 z23:=Tryz.sizeOf115
 v23:=Tryz.zeroValue115
 t26:=Tryz.underlying9
 a26:=Tryz.isAgg9
 z26:=Tryz.sizeOf9
 v26:=Tryz.zeroValue9
 t27:=Tryz.underlying141
 a27:=Tryz.isAgg141
 z27:=Tryz.sizeOf141
 v27:=Tryz.zeroValue141
 t28:=Tryz.underlying142
 a28:=Tryz.isAgg142
 z28:=Tryz.sizeOf142
 v28:=Tryz.zeroValue142
 t33:=Tryz.underlying119
 a33:=Tryz.isAgg119
 z33:=Tryz.sizeOf119
 v33:=Tryz.zeroValue119 }
def Tryz.sortedF_ren:Go.Shelf.Ren:=⟨fun|6=>79|8=>125|9=>126|11=>167|13=>169|12=>168|23=>192|24=>193|14=>183|15=>184|16=>185|17=>186|18=>187|19=>188|20=>189|21=>190|22=>191|25=>205|26=>206|27=>207|28=>208|29=>209|30=>210|31=>217|n=>n,fun|26=>9|28=>142|24=>56|0=>0|3=>3|37=>189|48=>199|50=>97|4=>4|40=>267|39=>266|45=>215|5=>5|9=>9|51=>283|55=>164|57=>296|58=>297|33=>119|n=>n,fun|n=>n⟩
theorem Tryz.sortedF:Go.Proofs.SlLaysZ.n6 Tryz.prog Tryz.sortedF_ren:={
 mixed:=by kernel_rfl
 f6:=⟨Tryz.f79.name,by decide,Tryz.func79.trans (congrArg some (by kernel_rfl))⟩
 f8:=⟨Tryz.f125.name,by decide,Tryz.func125.trans (congrArg some (by kernel_rfl))⟩
 f11:=⟨Tryz.f167.name,by decide,Tryz.func167.trans (congrArg some (by kernel_rfl))⟩
 t0:=Tryz.underlying0
 a0:=Tryz.isAgg0
 z0:=Tryz.sizeOf0
 v0:=Tryz.zeroValue0
 t24:=Tryz.underlying56
 a24:=Tryz.isAgg56
 z24:=Tryz.sizeOf56
 v24:=Tryz.zeroValue56
 t26:=Tryz.underlying9
 a26:=Tryz.isAgg9
 z26:=Tryz.sizeOf9
 v26:=Tryz.zeroValue9
 t28:=Tryz.underlying142
 a28:=Tryz.isAgg142
 z28:=Tryz.sizeOf142
 v28:=Tryz.zeroValue142
 i26:=by kernel_rfl }
def Tryz.sortF_ren:Go.Shelf.Ren:=⟨fun|6=>126|8=>169|9=>168|19=>192|20=>193|21=>183|22=>184|23=>185|24=>186|25=>187|26=>188|27=>189|28=>190|29=>191|36=>205|31=>206|32=>207|37=>208|38=>209|39=>210|41=>217|n=>n,fun|27=>56|29=>9|3=>3|32=>189|26=>56|0=>0|44=>199|46=>97|4=>4|36=>267|35=>266|41=>215|5=>5|9=>9|53=>283|57=>164|63=>296|64=>297|n=>n,fun|n=>n⟩
theorem Tryz.sortF:Go.Proofs.SlLaysM.n6 Tryz.prog Tryz.sortF_ren:={
 mixed:=by kernel_rfl
 f6:=⟨Tryz.f126.name,by decide,Tryz.func126.trans (congrArg some (by kernel_rfl))⟩
 f8:=Tryz.func169.trans (congrArg some (by kernel_rfl))
 f9:=⟨Tryz.f168.name,by decide,Tryz.func168.trans (congrArg some (by kernel_rfl))⟩
 f19:=Tryz.func192.trans (congrArg some (by kernel_rfl))
 f20:=Tryz.func193.trans (congrArg some (by kernel_rfl))
 f21:=⟨Tryz.f183.name,by decide,Tryz.func183.trans (congrArg some (by kernel_rfl))⟩
 f22:=⟨Tryz.f184.name,by decide,Tryz.func184.trans (congrArg some (by kernel_rfl))⟩
 f23:=⟨Tryz.f185.name,by decide,Tryz.func185.trans (congrArg some (by kernel_rfl))⟩
 f24:=⟨Tryz.f186.name,by decide,Tryz.func186.trans (congrArg some (by kernel_rfl))⟩
 f25:=⟨Tryz.f187.name,by decide,Tryz.func187.trans (congrArg some (by kernel_rfl))⟩
 f26:=⟨Tryz.f188.name,by decide,Tryz.func188.trans (congrArg some (by kernel_rfl))⟩
 f27:=⟨Tryz.f189.name,by decide,Tryz.func189.trans (congrArg some (by kernel_rfl))⟩
 f28:=⟨Tryz.f190.name,by decide,Tryz.func190.trans (congrArg some (by kernel_rfl))⟩
 f29:=⟨Tryz.f191.name,by decide,Tryz.func191.trans (congrArg some (by kernel_rfl))⟩
 f31:=Tryz.func206.trans (congrArg some (by kernel_rfl))
 f32:=Tryz.func207.trans (congrArg some (by kernel_rfl))
 f36:=⟨Tryz.f205.name,by decide,Tryz.func205.trans (congrArg some (by kernel_rfl))⟩
 f37:=⟨Tryz.f208.name,by decide,Tryz.func208.trans (congrArg some (by kernel_rfl))⟩
 f38:=⟨Tryz.f209.name,by decide,Tryz.func209.trans (congrArg some (by kernel_rfl))⟩
 f39:=⟨Tryz.f210.name,by decide,Tryz.func210.trans (congrArg some (by kernel_rfl))⟩
 f41:=⟨Tryz.f217.name,by decide,Tryz.func217.trans (congrArg some (by kernel_rfl))⟩
 t0:=Tryz.underlying0
 a0:=Tryz.isAgg0
 z0:=Tryz.sizeOf0
 v0:=Tryz.zeroValue0
 t3:=Tryz.underlying3
 a3:=Tryz.isAgg3
 z3:=Tryz.sizeOf3
 v3:=Tryz.zeroValue3
 t4:=Tryz.underlying4
 a4:=Tryz.isAgg4
 z4:=Tryz.sizeOf4
 v4:=Tryz.zeroValue4
 t5:=Tryz.underlying5
 a5:=Tryz.isAgg5
 z5:=Tryz.sizeOf5
 v5:=Tryz.zeroValue5
 t9:=Tryz.underlying9
 a9:=Tryz.isAgg9
 z9:=Tryz.sizeOf9
 v9:=Tryz.zeroValue9
 t26:=Tryz.underlying56
 a26:=Tryz.isAgg56
 z26:=Tryz.sizeOf56
 v26:=Tryz.zeroValue56
 t27:=Tryz.underlying56
 a27:=Tryz.isAgg56
 z27:=Tryz.sizeOf56
 v27:=Tryz.zeroValue56
 t29:=Tryz.underlying9
 a29:=Tryz.isAgg9
 z29:=Tryz.sizeOf9
 v29:=Tryz.zeroValue9
 t32:=Tryz.underlying189
 a32:=Tryz.isAgg189
 z32:=Tryz.sizeOf189
 v32:=Tryz.zeroValue189
 t35:=Tryz.underlying266
 a35:=Tryz.isAgg266
 z35:=Tryz.sizeOf266
 v35:=Tryz.zeroValue266
 t36:=Tryz.underlying267
 a36:=Tryz.isAgg267
 z36:=Tryz.sizeOf267
 v36:=Tryz.zeroValue267
 t41:=Tryz.underlying215
 a41:=Tryz.isAgg215
 z41:=Tryz.sizeOf215
 v41:=Tryz.zeroValue215
 t44:=Tryz.underlying199
 a44:=Tryz.isAgg199
 z44:=Tryz.sizeOf199
 v44:=Tryz.zeroValue199
 t46:=Tryz.underlying97
 a46:=Tryz.isAgg97
 z46:=Tryz.sizeOf97
 v46:=Tryz.zeroValue97
 t53:=Tryz.underlying283
 a53:=Tryz.isAgg283
 z53:=Tryz.sizeOf283
 v53:=Tryz.zeroValue283
 t57:=Tryz.underlying164
 a57:=Tryz.isAgg164
 z57:=Tryz.sizeOf164
 v57:=Tryz.zeroValue164
 t63:=Tryz.underlying296
 a63:=Tryz.isAgg296
 z63:=Tryz.sizeOf296
 v63:=Tryz.zeroValue296
 t64:=Tryz.underlying297
 a64:=Tryz.isAgg297
 z64:=Tryz.sizeOf297
 v64:=Tryz.zeroValue297 }
end Go.Proofs
namespace Go.Proofs.YtgmdimbiipemhaaGreatDoor
open Go.RowKit Go.Deep Go.Maps Go.Sort Go.Shelf
def Z1a (x:ByteArray):List Value:=[.string x]
theorem SJ (x:ByteArray):(Z1a x).length=1:=rfl
theorem ZI.owns {V:Type} {ev:V→Value} {w:World} {b:Nat} {l:List (ByteArray × V)} (h:ZI Value.string ev w b l) (hs:∀ p∈l,p.1.size≤maxLen) (hl:l.length≤maxLen) :
  ∃ D:DataW Unit,w.ownsMap Tryz.prog 9 (fun _=>some (.nil,[])) b l.length D∧(strKeys D).Perm (l.map fun p=>p.1.data.toList)∧Maps.size D=l.length:=by
 obtain ⟨hn,es,clock,h1,h2,h3,h4,h5⟩:=h
 have hsz:es.size=l.length:=by
  have:=congrArg List.length h2
  simpa using this
 have hrg:∀ x∈es.toList,∃ p∈l,x.key=.string p.1∧WideElems.rd (H:=Unit) Tryz.prog 9 (fun _=>some (.nil,[])) x=some (.string p.1.data.toList,.nil):=fun x hx=>by
  obtain ⟨i,hi⟩:=List.getElem?_of_mem hx
  have hk:=congrArg (fun l:List Value=>l[i]?) h2
  simp only[List.getElem?_map,hi,Option.map_some] at hk
  cases hp:l[i]? with
  | none=>rw[hp] at hk;cases hk
  | some p =>
   rw[hp] at hk
   simp only[Option.map_some,Option.some.injEq] at hk
   refine ⟨p,List.mem_of_getElem? hp,hk,?_⟩
   unfold WideElems.rd
   rw[hk,WideMaps.keyOf_string_mk SE (hs p (List.mem_of_getElem? hp))]
   rfl
 refine ⟨_,⟨es,clock,h1,⟨by omega,⟨h5,?_,?_⟩,fun x hx=>?_⟩,by omega,rfl⟩,?_,?_⟩
 ·rw[List.nodup_iff_pairwise_ne,List.pairwise_map]
  exact h4.imp (fun hlt e=>by omega)
 ·rw[h2]
  refine List.Pairwise.map _ (fun a b hab e=>?_) (List.pairwise_map.1 hn)
  exact hab (by injection e)
 ·obtain ⟨p,_,_,h⟩:=hrg x hx
  exact ⟨_,h⟩
 ·have e1:∀ (xs:List MapEntry) (ps:List (ByteArray × V)),xs.map (·.key)=ps.map (fun p=>Value.string p.1)→(∀ x∈xs,∃ p:ByteArray × V,x.key=.string p.1∧WideElems.rd (H:=Unit) Tryz.prog 9 (fun _=>some (.nil,[])) x=some (.string p.1.data.toList,.nil))→xs.map (WideElems.rg (H:=Unit) Tryz.prog 9 (fun _=>some (.nil,[])))=ps.map (fun p=>(Lit.string p.1.data.toList,.nil)):=by
   intro xs
   induction xs with
   | nil=>intro ps hps _;cases ps with
    | nil=>rfl
    | cons p ps=>simp at hps
   | cons x xs ih =>
    intro ps hps hx
    cases ps with
    | nil=>simp at hps
    | cons p ps =>
     simp only[List.map_cons,List.cons.injEq] at hps ⊢
     obtain ⟨p',hk,hr⟩:=hx x List.mem_cons_self
     refine ⟨?_,ih ps hps.2 (fun y hy=>hx y (List.mem_cons_of_mem _ hy))⟩
     have hpp:p'.1=p.1:=by
      have:=hk.symm.trans hps.1
      injection this
     unfold WideElems.rg
     rw[hr,hpp]
     rfl
  have e2:=e1 es.toList l h2 (fun x hx=>by obtain ⟨p,_,h,h'⟩:=hrg x hx;exact ⟨p,h,h'⟩)
  rw[e2]
  have hp:=WideShapes.sorted_perm (l.map fun p=>(Lit.string p.1.data.toList,(DataW.nil:DataW Unit)))
  have hq:=hp.map (fun q:Lit × DataW Unit=>strOf q.1)
  refine List.Perm.trans hq ?_
  rw[List.map_map]
  exact List.Perm.refl _
 ·simp only[Maps.size]
  rw[(WideShapes.sorted_perm _).length_eq]
  simp[hsz]
theorem Z5D (m:Nat):AnyZ.SortsIn Tryz.prog Tryz.sortedF_ren Fence.wide m :=
 ⟨fun blk off cap ss W hH hblk hsz=>callsIn_wide.2 (AnyM.slices_Sort_string Tryz.sortF blk off cap ss W hH hblk hsz),
  fun p cap W=>callsIn_wide.2 (AnyM.slices_Sort_string_none Tryz.sortF p cap W)⟩
theorem Z6T (mb:Option Nat) (W:World):Calls Tryz.prog 80 #[.map mb] W fun e w'=>e=.returned (.func (.func 127) #[] #[.pointer (some ⟨W.heap.size,0,none⟩)])∧w'=W.alloc (.cells #[.map mb] 115) :=
 callsIn_wide.1 (AnyZ.keys_in Tryz.keysF Fence.wide 5 trivial rfl mb W)
theorem Z5j {H:Type} (b nn:Nat) (D0:DataW H) (R:Value→Option (DataW H × List MemPlace)) (w:World) (hown:w.ownsMap Tryz.prog 9 R b nn D0) (hmax:Maps.size D0≤maxLen) (hbytes:Maps.size D0*16≤140737488355328) :
  Calls Tryz.prog 79 #[.func (.func 127) #[] #[.pointer (some ⟨w.heap.size,0,none⟩)]] (w.alloc (.cells #[.map (some b)] 115)) fun e w'=>∃ (v:Value) (ss:List (List UInt8)),e=.returned v∧ss.Perm (strKeys D0) ∧
   w'.ownsRow (w.alloc (.cells #[.map (some b)] 115)).heap.size 9 1 v ss.length ((ss.mergeSort (fun x y=>decide (x≤y))).map encStr)∧(v=.slice none 0 0↔ss=[])∧Below (w.alloc (.cells #[.map (some b)] 115)).heap.size (w.alloc (.cells #[.map (some b)] 115)) w':=by
 have hbl:=hown.lt
 have hseq:SeqGives Fence.wide 2 Tryz.prog 127 #[.pointer (some ⟨w.heap.size,0,none⟩)] encStr (fun ss=>ss.Perm (strKeys D0)) (Maps.size D0) (w.alloc (.cells #[.map (some b)] 115)) :=
  AnyZ.keys_gives (ρ:=Tryz.keysF_ren) { Tryz.keysF with } Fence.wide _ trivial rfl (by omega) w.heap.size b nn D0 _ (by simp) (by simp) (by
   obtain ⟨es,clock,hb,Ft,hs,hD⟩:=hown
   exact ⟨es,clock,(Below.heap_alloc _ _ b hbl).trans hb,Ft,hs,hD⟩)
 exact callsIn_wide.1 (AnyZ.sorted_in Tryz.sortedF Fence.wide 5 trivial trivial trivial trivial rfl (by omega) (Z5D _) (enters_of Tryz.func126 (by kernel_rfl) rfl) 127 #[.pointer (some ⟨w.heap.size,0,none⟩)] trivial (enters_of Tryz.func127 (by kernel_rfl) rfl) _ _ hmax hbytes _ hseq)
def Z59 (l:List ByteArray):List ByteArray:=((l.map fun n=>n.data.toList).mergeSort (fun x y=>decide (x≤y))).map fun b=>⟨b.toArray⟩
def Wn (A:Z4):List ByteArray:=Z59 (A.files.map (·.1))
theorem Z3Z (A:Z4):(Wn A).Perm (A.files.map (·.1)):=by
 unfold Wn Z59
 refine ((List.mergeSort_perm _ _).map _).trans ?_
 rw[List.map_map]
 rw[show ((fun b:List UInt8=>(⟨b.toArray⟩:ByteArray)) ∘ fun n:ByteArray=>n.data.toList)=id from by funext n;cases n;simp]
 simp
theorem Z1D (a b c:List UInt8) (h:decide (a≤b)=true) (k:decide (b≤c)=true):decide (a≤c)=true:=by
 rw[decide_eq_true_eq] at *
 exact List.le_trans h k
theorem Z1U (a b:List UInt8):(decide (a≤b) || decide (b≤a))=true:=by
 rw[Bool.or_eq_true,decide_eq_true_eq,decide_eq_true_eq]
 exact List.le_total a b
theorem Z73 {l l':List (List UInt8)} (h:l.Perm l'):l.mergeSort (fun x y=>decide (x≤y))=l'.mergeSort (fun x y=>decide (x≤y)):=by
 have hp:=((List.mergeSort_perm l (fun x y=>decide (x≤y))).trans h).trans (List.mergeSort_perm l' (fun x y=>decide (x≤y))).symm
 refine List.Perm.eq_of_pairwise (fun a b _ _ hab hba=>?_) (List.pairwise_mergeSort Z1D Z1U l) (List.pairwise_mergeSort Z1D Z1U l') hp
 rw[decide_eq_true_eq] at hab hba
 exact List.le_antisymm hab hba
theorem Z1t {base:Nat} {w:World} {D:DSh} {A:Z4} (h:Zd base w D A) (hl:A.files.length≤1000000) :
  Calls Tryz.prog 38 #[.pointer (some ⟨D.pb,0,none⟩)] w fun e w'=>∃ v,e=.returned v∧Own Z1a 1 9 w.heap.size w' v (Wn A)∧Below w.heap.size w w':=by
 have c0:=Joins.cell_of_block h.blk 0
 simp only[List.getElem?_toArray,List.getElem?_cons_zero] at c0
 obtain ⟨D0,hown,hperm,hsize⟩:=h.mfiles.owns (fun p hp=>by have:=(h.ok.inf p.1 p.2 hp).2;unfold maxLen;omega) (by unfold maxLen;omega)
 have HS:=Jh (Z5j D.mf _ D0 _ w hown (by rw[hsize];unfold maxLen;omega) (by rw[hsize];omega))
 have HP:=Lib.hid hperm
 clear h hown hperm hsize
 go_enter Tryz.func38,Tryz.ntmps38
 go_wp2_with fail
 refine (Z6T _ _).mono ?_
 rintro e w1 ⟨rfl,rfl⟩
 go_wp2_with fail
 refine HS.out.mono ?_
 rintro e w2 ⟨v,ss,rfl,hss,hrow,_,hb⟩
 have hB:Below w.heap.size w w2:=((Below.refl _ _).alloc (Nat.le_refl _) _).trans (hb.mono (by simp))
 have hO:Own Z1a 1 9 w.heap.size w2 v (Wn A):=by
  have e1:Wn A=(ss.mergeSort (fun x y=>decide (x≤y))).map fun b=>⟨b.toArray⟩:=by
   unfold Wn Z59
   rw[Z73 (hss.trans HP.out),List.map_map]
   rfl
  have e2:(Wn A).flatMap Z1a=(ss.mergeSort (fun x y=>decide (x≤y))).map encStr:=by
   rw[e1,List.flatMap_map]
   induction (ss.mergeSort (fun x y=>decide (x≤y))) with
   | nil=>rfl
   | cons x xs ih=>rw[List.flatMap_cons,ih];rfl
  have e3:(Wn A).length=ss.length:=by rw[e1,List.length_map,(List.mergeSort_perm _ _).length_eq]
  refine Own.mono (base:=(w.alloc (.cells #[.map (some D.mf)] 115)).heap.size) ?_ (by simp)
  unfold Own
  rw[e2,e3]
  exact hrow
 have HN:=Jh (And.intro hO hB)
 obtain ⟨s,e9⟩:=hO.slv
 change v=.slice s.a s.n s.cap at e9
 subst e9
 clear hss hrow hb hB hO
 go_wp2
 go_ret
 exact ⟨_,rfl,HN.out.1,HN.out.2⟩
end Go.Proofs.YtgmdimbiipemhaaGreatDoor
namespace Go.Proofs.YtgmdimbiipemhaaGreatDoor
open Go.RowKit Go.Deep
structure OpA where
 kind:Int
 name:ByteArray
 s:ByteArray
 b:Sl
 at_:Int
 names:Int
 keep:Sl
 torn:Int
 bs:List UInt8
 ks:List Bool
def Z4x (x:Bool):List Value:=[.bool x]
def Wq (t:Option TypeId):Prop:=t=none∨t=some 118∨t=some 126∨t=some 3∨t=some 124∨t=some 131
theorem Zd.dtag {base:Nat} {w:World} {D:DSh} {A:Z4} (h:Zd base w D A) {b:Nat} (hb:Wo D A b):Wq (YD w b):=by
 rcases hb with rfl|rfl|rfl|hb|hb|⟨f,hf,rfl|hb⟩
 ·exact .inr (.inl h.tpb)
 ·exact .inl (Wp h.mfiles)
 ·exact .inl (Wp h.mbase)
 ·exact .inr (.inr (.inl (Zj h.ochg hb)))
 ·exact .inr (.inr (.inr (.inl (Zj h.osyn hb))))
 ·exact .inr (.inr (.inr (.inr (.inl (h.file b hf).tag))))
 ·exact .inr (.inr (.inr (.inr (.inr ((h.file f hf).row hb).1))))
def UP (x:OpA) (A:Z4) (c:Int) (A':Z4):Prop :=
 if x.kind=1 then c=Yo A x.name∧((c≠0∧A'=A)∨(c=0∧∃ fb,fb∉A.ids∧A'=ZH ⟨0,x.name,⟨#[]⟩,some fb⟩ (Xa fb A)))
 else if x.kind=2 then (Zb A.files x.name=none∧c=61∧A'=A)∨(∃ f,Zb A.files x.name=some f∧1048576<ZQ (A.fs f)+x.bs.length∧c=62∧A'=A)∨(∃ f,Zb A.files x.name=some f∧ZQ (A.fs f)+x.bs.length≤1048576∧c=0∧A'=Yh f x.bs A)
 else if x.kind=3 then (Zb A.files x.name=none∧c=61∧A'=A)∨(∃ f,Zb A.files x.name=some f∧c=0∧A'=ZV f A)
 else if x.kind=4 then (Yn x.s=false∧c=63∧A'=A)∨(Yn x.s=true∧Zb A.files x.name=none∧c=61∧A'=A)∨(∃ f,Yn x.s=true∧Zb A.files x.name=some f∧c=0∧A'=ZH ⟨0,x.s,x.name,some f⟩ A)
 else if x.kind=5 then (Zb A.files x.name=none∧c=61∧A'=A)∨(∃ f,Zb A.files x.name=some f∧c=0∧A'=ZH ⟨0,⟨#[]⟩,x.name,none⟩ A)
 else if x.kind=6 then c=0∧A'=Xg A
 else c=0∧A'=A
theorem Z4Y (c:Chg) (l:List (ByteArray × Nat)):(ZZ c l).length≤l.length+1:=by
 have h1:=(Sn l c.old).length_le
 unfold ZZ
 cases c.f with
 | none=>dsimp only;omega
 | some f=>dsimp only;have:=Z0N (XA l c.old) c.name f;omega
theorem Rk (c:Chg) (l:List (ByteArray × Nat)) (h:(l.map (·.1)).Nodup):((ZZ c l).map (·.1)).Nodup:=by
 unfold ZZ
 cases c.f with
 | none=>exact SC l c.old h
 | some f=>exact QR _ _ _ (SC l c.old h)
theorem YZ (c:Chg) (l:List (ByteArray × Nat)) (h:(l.map (·.1)).Nodup) (n:ByteArray) :
  Zb (ZZ c l) n=match c.f with|some f=>if n=c.name then some f else if n=c.old then none else Zb l n|none=>if n=c.old then none else Zb l n:=by
 have hd:Zb (XA l c.old) n=if n=c.old then none else Zb l n:=by
  by_cases e:n=c.old
  ·rw[if_pos e,e];exact TS l c.old h
  ·rw[if_neg e];exact Z09 l (fun e'=>e e'.symm)
 unfold ZZ
 cases c.f with
 | none=>exact hd
 | some f =>
  dsimp only
  by_cases e:n=c.name
  ·rw[if_pos e,e];exact TT _ _ _
  ·rw[if_neg e,QX _ _ (fun e'=>e e'.symm)];exact hd
structure Z4.Inj (A:Z4):Prop where
 nd:(A.files.map (·.1)).Nodup
 ids:∀ n f,Zb A.files n=some f→f∈A.ids
 one:∀ n m f,Zb A.files n=some f→Zb A.files m=some f→n=m
 rt:∀ n f,Zb A.files n=some f→Yn n=true
theorem Z38:Ry.Inj:=⟨List.nodup_nil,fun n f h=>(by cases h),fun n m f h=>(by cases h),fun n f h=>(by cases h)⟩
theorem Z4.Inj.step {A:Z4} (h:A.Inj) (c:Chg) (hf:∀ f,c.f=some f→(f∈A.ids∧Yn c.name=true)∧∀ n,Zb A.files n=some f→n=c.old):(ZH c A).Inj:=by
 have ha:=YZ c A.files h.nd
 refine ⟨Rk c A.files h.nd,fun n f hn=>?_,fun n m f hn hm=>?_,fun n f hn=>?_⟩
 ·change Zb (ZZ c A.files) n=some f at hn
  rw[ha] at hn
  cases hc:c.f with
  | none =>
   rw[hc] at hn
   dsimp only at hn
   split at hn
   ·cases hn
   ·exact h.ids n f hn
  | some g =>
   rw[hc] at hn
   dsimp only at hn
   split at hn
   ·cases hn;exact (hf f hc).1.1
   ·split at hn
    ·cases hn
    ·exact h.ids n f hn
 ·change Zb (ZZ c A.files) n=some f at hn
  change Zb (ZZ c A.files) m=some f at hm
  rw[ha] at hn hm
  cases hc:c.f with
  | none =>
   rw[hc] at hn hm
   dsimp only at hn hm
   split at hn
   ·cases hn
   ·split at hm
    ·cases hm
    ·exact h.one n m f hn hm
  | some g =>
   rw[hc] at hn hm
   dsimp only at hn hm
   have key:∀ n,¬ n=c.name→(if n=c.name then some g else if n=c.old then none else Zb A.files n)=some g→False:=fun n h1 h2=>by
    rw[if_neg h1] at h2
    split at h2
    ·cases h2
    ·rename_i h3;exact h3 ((hf g hc).2 n h2)
   by_cases e1:n=c.name
   ·rw[if_pos e1] at hn
    cases hn
    by_cases e2:m=c.name
    ·rw[e1,e2]
    ·exact (key m e2 hm).elim
   ·by_cases e2:m=c.name
    ·rw[if_pos e2] at hm
     cases hm
     exact (key n e1 hn).elim
    ·rw[if_neg e1] at hn
     rw[if_neg e2] at hm
     split at hn
     ·cases hn
     ·split at hm
      ·cases hm
      ·exact h.one n m f hn hm
 ·change Zb (ZZ c A.files) n=some f at hn
  rw[ha] at hn
  cases hc:c.f with
  | none =>
   rw[hc] at hn
   dsimp only at hn
   split at hn
   ·cases hn
   ·exact h.rt n f hn
  | some g =>
   rw[hc] at hn
   dsimp only at hn
   split at hn
   ·rename_i e;rw[e];exact (hf g hc).1.2
   ·split at hn
    ·cases hn
    ·exact h.rt n f hn
theorem Z4.Inj.born {A:Z4} (h:A.Inj) (fb:Nat):(Xa fb A).Inj:=⟨h.nd,fun n f hn=>List.mem_cons_of_mem _ (h.ids n f hn),h.one,h.rt⟩
theorem Z4.Small.mono {A:Z4} {n m:Nat} (h:A.Small n) (hm:n≤m):A.Small m :=
 ⟨h.now0,by have:=h.now;omega,Nat.le_trans h.chg hm,Nat.le_trans h.syn hm,fun f hf=>Nat.le_trans (h.pcs f hf) (by omega),Nat.le_trans h.fil hm⟩
theorem Z4.Small.step {A:Z4} {n:Nat} (h:A.Small n) (c:Chg):(ZH c A).Small (n+1):=by
 refine ⟨?_,?_,?_,?_,fun f hf=>Nat.le_trans (h.pcs f hf) (by omega),?_⟩
 ·have:=h.now0;simp only[ZH];omega
 ·have:=h.now;simp only[ZH];omega
 ·have:=h.chg;simp[ZH];omega
 ·have:=h.syn;simp only[ZH];omega
 ·have:=h.fil;have:=Z4Y c A.files;simp only[ZH];omega
theorem UP.small {x:OpA} {A A':Z4} {c:Int} (h:UP x A c A') {n:Nat} (hs:A.Small n):A'.Small (n+1):=by
 have h0:=hs.mono (Nat.le_succ n)
 have hn0:=hs.now0
 have hn:=hs.now
 unfold UP at h
 split at h
 ·rcases h with ⟨_,⟨_,rfl⟩|⟨_,fb,hfb,rfl⟩⟩
  ·exact h0
  ·refine Z4.Small.step (A:=Xa fb A) ⟨hs.now0,hs.now,hs.chg,hs.syn,fun f hf=>?_,hs.fil⟩ _
   simp only[Xa]
   split
   ·simp
   ·rename_i e
    rcases List.mem_cons.1 hf with e2|hf
    ·exact absurd e2 e
    ·exact hs.pcs f hf
 ·split at h
  ·rcases h with ⟨_,_,rfl⟩|⟨f,_,_,_,rfl⟩|⟨f,hf,_,_,rfl⟩
   ·exact h0
   ·exact h0
   ·refine ⟨by simp only[Yh];omega,by simp only[Yh];omega,h0.chg,h0.syn,fun g hg=>?_,h0.fil⟩
    simp only[Yh]
    split
    ·rename_i e;subst e;have:=hs.pcs g hg;simp;omega
    ·exact h0.pcs g hg
  ·split at h
   ·rcases h with ⟨_,_,rfl⟩|⟨f,_,_,rfl⟩
    ·exact h0
    ·refine ⟨by simp only[ZV];omega,by simp only[ZV];omega,h0.chg,h0.syn,fun g hg=>?_,h0.fil⟩
     simp only[ZV]
     split
     ·rename_i e;subst e;rw[List.length_map];exact h0.pcs g hg
     ·exact h0.pcs g hg
   ·split at h
    ·rcases h with ⟨_,_,rfl⟩|⟨_,_,_,rfl⟩|⟨f,_,hf,_,rfl⟩
     ·exact h0
     ·exact h0
     ·exact hs.step _
    ·split at h
     ·rcases h with ⟨_,_,rfl⟩|⟨f,hf,_,rfl⟩
      ·exact h0
      ·exact hs.step _
     ·split at h
      ·rcases h with ⟨_,rfl⟩
       exact ⟨by simp only[Xg];omega,by simp only[Xg];omega,h0.chg,by have:=hs.syn;simp[Xg];omega,h0.pcs,h0.fil⟩
      ·rcases h with ⟨_,rfl⟩
       exact h0
theorem Z0a (k:Int) (ps:List PcA):Zu (ps.map (Vl k))=Zu ps:=by
 unfold Zu
 rw[List.flatMap_map]
 congr 1
 funext p
 simp only[Vl]
 split <;> rfl
def WR (c:Int) (n:Nat):Nat:=((if c<0 then -(c+1) else c) % (n:Int)).toNat
theorem Z2F (c:Int) {n:Nat} (hn:0<n):WR c n<n:=by
 unfold WR
 have h1:=Int.emod_lt_of_pos (if c<0 then -(c+1) else c) (show (0:Int)<n by omega)
 have h2:=Int.emod_nonneg (if c<0 then -(c+1) else c) (show (n:Int)≠0 by omega)
 omega
def XP (syn:List Int) (at_:Int):Int:=syn.foldl (fun s n=>if n≤at_ then n else s) 0
def Wk (chg:List Chg) (safe at_:Int):Nat:=(chg.filter fun c=>decide (safe<c.at_) && decide (c.at_≤at_)).length
def WN (safe at_:Int):List Chg→Nat→List (ByteArray × Nat)→List (ByteArray × Nat)
 | [],_,m=>m
 | c :: cs,op,m=>if safe<c.at_ then (if op=0∨at_<c.at_ then m else WN safe at_ cs (op - 1) (ZZ c m)) else WN safe at_ cs op (ZZ c m)
def UZ (A:Z4) (at_ names:Int):List (ByteArray × Nat):=WN (XP A.syn at_) at_ A.chg (WR names (Wk A.chg (XP A.syn at_) at_+1)) A.base
theorem Z0Y (l:List UInt8):(l.flatMap u8c).length=l.length:=by
 rw[Zx Z7,Nat.mul_one]
structure UA where
 out:List UInt8
 fin:Nat
 n:Nat
def Ya (at_:Int) (ks:List Bool) (torn:Int) (s:UA) (p:PcA):UA :=
 if at_<p.came then s
 else if p.safe≠0∧p.safe≤at_ then ⟨s.out++p.bs,(s.out++p.bs).length,s.n⟩
 else if ks[s.n]?=some true then ⟨s.out++p.bs,s.out.length+WR torn (p.bs.length+1),s.n+1⟩
 else ⟨s.out++List.replicate p.bs.length 0,s.fin,s.n+1⟩
def Rx (at_:Int) (ks:List Bool) (torn:Int) (ps:List PcA):UA:=ps.foldl (Ya at_ ks torn) ⟨[],0,0⟩
def Sr (at_:Int) (ks:List Bool) (torn:Int) (ps:List PcA):List UInt8:=(Rx at_ ks torn ps).out.take (Rx at_ ks torn ps).fin
section
variable {base:Nat} {w w':World} {D:DSh} {A:Z4}
end
end Go.Proofs.YtgmdimbiipemhaaGreatDoor
namespace Go.Proofs.YtgmdimbiipemhaaGreatDoor
open Go.RowKit
section
variable {K V:Type} [DecidableEq K] {ek:K→Value} {ev:V→Value}
end
end Go.Proofs.YtgmdimbiipemhaaGreatDoor
namespace Go.Proofs.YtgmdimbiipemhaaGreatDoor
open Go.RowKit Go.Deep
structure Z4.Hist (A:Z4):Prop where
 fold:A.files=A.chg.foldl (fun l c=>ZZ c l) A.base
 at_:∀ c∈A.chg,c.at_≤A.now
 syn:∀ n∈A.syn,n≤A.now
 pcs:∀ f∈A.ids,∀ p∈A.fs f,p.came≤A.now∧p.safe≤A.now
theorem Z7u:Ry.Hist:=⟨rfl,fun c hc=>(by cases hc),fun c hc=>(by cases hc),fun c hc=>(by cases hc)⟩
theorem Z4.Hist.step {A:Z4} (h:A.Hist) (c:Chg):(ZH c A).Hist:=by
 refine ⟨?_,fun d hd=>?_,fun n hn=>?_,fun f hf p hp=>?_⟩
 ·simp only[ZH]
  rw[List.foldl_append,←h.fold]
  rfl
 ·simp only[ZH] at hd ⊢
  rcases List.mem_append.1 hd with hd|hd
  ·have:=h.at_ d hd;omega
  ·simp at hd;subst hd;simp
 ·have:=h.syn n hn;simp only[ZH];omega
 ·have:=h.pcs f hf p hp;simp only[ZH];omega
theorem Z7S {n m:Int} {p:PcA} (h:p.came≤n∧p.safe≤n) (hm:n≤m):(Vl m p).came≤m∧(Vl m p).safe≤m:=by
 unfold Vl
 split
 ·exact ⟨by dsimp only;omega,by dsimp only;omega⟩
 ·exact ⟨by omega,by omega⟩
theorem Z4.Hist.sync {A:Z4} (h:A.Hist) (f:Nat):(ZV f A).Hist:=by
 refine ⟨h.fold,fun d hd=>?_,fun n hn=>?_,fun g hg p hp=>?_⟩
 ·have:=h.at_ d hd;simp only[ZV];omega
 ·have:=h.syn n hn;simp only[ZV];omega
 ·simp only[ZV] at hp ⊢
  split at hp
  ·rename_i e
   obtain ⟨q,hq,rfl⟩:=List.mem_map.1 hp
   rw[←e] at hq
   exact Z7S (h.pcs g hg q hq) (by omega)
  ·have:=h.pcs g hg p hp;omega
theorem Z4.Hist.syns {A:Z4} (h:A.Hist):(Xg A).Hist:=by
 refine ⟨h.fold,fun d hd=>?_,fun n hn=>?_,fun g hg p hp=>?_⟩
 ·have:=h.at_ d hd;simp only[Xg];omega
 ·simp only[Xg] at hn ⊢
  rcases List.mem_append.1 hn with hn|hn
  ·have:=h.syn n hn;omega
  ·simp at hn;omega
 ·have:=h.pcs g hg p hp;simp only[Xg];omega
theorem Z4.Hist.app {A:Z4} (h:A.Hist) (h0:0≤A.now) (f:Nat) (bs:List UInt8):(Yh f bs A).Hist:=by
 refine ⟨h.fold,fun d hd=>?_,fun n hn=>?_,fun g hg p hp=>?_⟩
 ·have:=h.at_ d hd;simp only[Yh];omega
 ·have:=h.syn n hn;simp only[Yh];omega
 ·simp only[Yh] at hp ⊢
  split at hp
  ·rename_i e
   rcases List.mem_append.1 hp with hp|hp
   ·rw[←e] at hp;have:=h.pcs g hg p hp;omega
   ·simp at hp;subst hp;exact ⟨by simp,by simp;omega⟩
  ·have:=h.pcs g hg p hp;omega
theorem Z4.Hist.born {A:Z4} (h:A.Hist) (fb:Nat):(Xa fb A).Hist:=by
 refine ⟨h.fold,h.at_,h.syn,fun g hg p hp=>?_⟩
 simp only[Xa] at hp hg ⊢
 split at hp
 ·cases hp
 ·rename_i e
  exact h.pcs g ((List.mem_cons.1 hg).resolve_left e) p hp
theorem Z2y {safe at_:Int}:∀ {cs:List Chg} {op:Nat} {m:List (ByteArray × Nat)},(∀ c∈cs,¬ safe<c.at_)→WN safe at_ cs op m=cs.foldl (fun l c=>ZZ c l) m
 | [],_,_,_=>rfl
 | c :: cs,op,m,h=>by
  unfold WN
  rw[if_neg (h c List.mem_cons_self)]
  exact Z2y (fun d hd=>h d (List.mem_cons_of_mem _ hd))
theorem Z5g (syn:List Int) {n at_:Int} (h:n≤at_):XP (syn++[n]) at_=n:=by
 unfold XP
 rw[List.foldl_append]
 simp[h]
theorem Z6p {at_:Int} {ks:List Bool} {torn:Int} {ps:List PcA} (h:∀ p∈ps,p.came≤at_∧p.safe≤at_∧p.safe≠0):Sr at_ ks torn ps=Zu ps:=by
 have key:∀ (ps:List PcA) (o:List UInt8) (n:Nat),(∀ p∈ps,p.came≤at_∧p.safe≤at_∧p.safe≠0)→ps.foldl (Ya at_ ks torn) ⟨o,o.length,n⟩=⟨o++Zu ps,(o++Zu ps).length,n⟩:=by
  intro ps
  induction ps with
  | nil=>intro o n _;simp[Zu]
  | cons p ps ih =>
   intro o n h
   obtain ⟨h1,h2,h3⟩:=h p List.mem_cons_self
   have e:Ya at_ ks torn ⟨o,o.length,n⟩ p=⟨o++p.bs,(o++p.bs).length,n⟩:=by
    unfold Ya
    rw[if_neg (by omega),if_pos ⟨h3,h2⟩]
   rw[List.foldl_cons,e,ih _ _ (fun q hq=>h q (List.mem_cons_of_mem _ hq))]
   simp[Zu,List.flatMap_cons]
 unfold Sr Rx
 rw[show (⟨[],0,0⟩:UA)=⟨[],([]:List UInt8).length,0⟩ from rfl,key ps [] 0 h]
 simp
theorem Z68 {k n:Nat} (h:k<n):WR (k:Int) n=k:=by
 unfold WR
 rw[if_neg (by omega),Int.emod_eq_of_lt (by omega) (by omega)]
 simp
theorem Z2E {a b:Int}:∀ (syn:List Int) (z:Int),(∀ n∈syn,n≤a∧n≤b)→syn.foldl (fun s n=>if n≤a then n else s) z=syn.foldl (fun s n=>if n≤b then n else s) z
 | [],_,_=>rfl
 | n :: syn,z,h=>by
  rw[List.foldl_cons,List.foldl_cons,if_pos (h n (by simp)).1,if_pos (h n (by simp)).2]
  exact Z2E syn n (fun m hm=>h m (by simp[hm]))
theorem Z2o {a b:Int} {syn:List Int} (h:∀ n∈syn,n≤a∧n≤b):XP syn a=XP syn b:=Z2E syn 0 h
theorem Z2s {a:Int}:∀ (syn:List Int) (z:Int),z≤a→syn.foldl (fun s n=>if n≤a then n else s) z≤a
 | [],_,h=>h
 | n :: syn,z,h=>by
  rw[List.foldl_cons]
  refine Z2s syn _ ?_
  split
  ·assumption
  ·exact h
theorem Z6y {a:Int} (syn:List Int) (h:0≤a):XP syn a≤a:=Z2s syn 0 h
theorem Z4R (c:Chg) (cs:List Chg) (s a:Int):Wk (c :: cs) s a=(if s<c.at_∧c.at_≤a then 1 else 0)+Wk cs s a:=by
 unfold Wk
 rw[List.filter_cons]
 by_cases h1:s<c.at_ <;> by_cases h2:c.at_≤a <;> simp[h1,h2] <;> omega
theorem Z30 {a b s:Int} {cs:List Chg} (h:∀ c∈cs,c.at_≤a∧c.at_≤b):Wk cs s a=Wk cs s b:=by
 unfold Wk
 congr 1
 refine List.filter_congr (fun c hc=>?_)
 have:=h c hc
 rw[decide_eq_true this.1,decide_eq_true this.2]
theorem RB {a b s:Int}:∀ {cs:List Chg} {op:Nat} {m:List (ByteArray × Nat)},(∀ c∈cs,c.at_≤a∧c.at_≤b)→WN s a cs op m=WN s b cs op m
 | [],_,_,_=>rfl
 | c :: cs,op,m,h=>by
  have h1:=h c (by simp)
  unfold WN
  rw[RB (op:=op - 1) (fun d hd=>h d (by simp[hd])),RB (op:=op) (fun d hd=>h d (by simp[hd]))]
  have e1:(op=0∨a<c.at_)↔(op=0∨b<c.at_):=by constructor <;> intro h2 <;> rcases h2 with h2|h2 <;> omega
  simp only[e1]
theorem SR {s a:Int} {d:Chg} (hd:s<d.at_) (hd2:d.at_≤a):∀ {cs:List Chg} {op:Nat} {m:List (ByteArray × Nat)},(∀ c∈cs,c.at_≤a) →
  WN s a (cs++[d]) op m=if op≤Wk cs s a then WN s a cs op m else ZZ d (cs.foldl (fun l c=>ZZ c l) m)
 | [],op,m,_=>by
  have e:Wk [] s a=0:=rfl
  rw[List.nil_append,e]
  by_cases h0:op=0
  ·subst h0
   simp[WN,hd]
  ·have h1:¬ (op=0∨a<d.at_):=by omega
   simp only[WN,if_pos hd,if_neg h1]
   rw[if_neg (by omega)]
   rfl
 | c :: cs,op,m,h=>by
  have hc:=h c (by simp)
  have h2:∀ e∈cs,e.at_≤a:=fun e he=>h e (by simp[he])
  rw[List.cons_append,Z4R]
  by_cases hs:s<c.at_
  ·rw[if_pos (show s<c.at_∧c.at_≤a from ⟨hs,hc⟩)]
   by_cases h0:op=0
   ·subst h0
    simp[WN,hs]
   ·have h1:¬ (op=0∨a<c.at_):=by omega
    simp only[WN,if_pos hs,if_neg h1]
    rw[SR hd hd2 h2]
    by_cases h3:op - 1≤Wk cs s a
    ·rw[if_pos h3,if_pos (show op≤1+Wk cs s a by omega)]
    ·rw[if_neg h3,if_neg (show ¬ op≤1+Wk cs s a by omega)]
     rfl
  ·rw[if_neg (show ¬ (s<c.at_∧c.at_≤a) from fun e=>hs e.1),Nat.zero_add]
   simp only[WN,if_neg hs]
   rw[SR hd hd2 h2]
   rfl
def XR (A:Z4) (P:List (List (ByteArray × Nat))):Prop:=∀ nm,UZ A A.now nm∈P
theorem XR.step {A:Z4} {P:List (List (ByteArray × Nat))} (h:XR A P) (hh:A.Hist) (h0:0≤A.now) (c:Chg):XR (ZH c A) (P++[ZZ c A.files]):=by
 intro nm
 have hs:XP A.syn (A.now+1)=XP A.syn A.now:=Z2o (fun n hn=>⟨by have:=hh.syn n hn;omega,hh.syn n hn⟩)
 have hle:=Z6y A.syn h0
 have ho:Wk A.chg (XP A.syn A.now) (A.now+1)=Wk A.chg (XP A.syn A.now) A.now:=Z30 (fun c hc=>⟨by have:=hh.at_ c hc;omega,hh.at_ c hc⟩)
 have hu:∀ op,WN (XP A.syn A.now) (A.now+1) A.chg op A.base=WN (XP A.syn A.now) A.now A.chg op A.base:=fun op=>RB (fun c hc=>⟨by have:=hh.at_ c hc;omega,hh.at_ c hc⟩)
 unfold UZ
 show WN (XP A.syn (A.now+1)) (A.now+1) (A.chg++[{ c with at_:=A.now+1 }]) (WR nm (Wk (A.chg++[{ c with at_:=A.now+1 }]) (XP A.syn (A.now+1)) (A.now+1)+1)) A.base∈_
 rw[hs,SR (d:={ c with at_:=A.now+1 }) (show XP A.syn A.now<A.now+1 by omega) (show A.now+1≤A.now+1 from Int.le_refl _) (fun d hd=>by have:=hh.at_ d hd;omega),ho]
 split
 ·rename_i h1
  rw[hu]
  have:=h ((WR nm (Wk (A.chg++[{ c with at_:=A.now+1 }]) (XP A.syn A.now) (A.now+1)+1):Nat):Int)
  unfold UZ at this
  rw[Z68 (by omega)] at this
  exact List.mem_append_left _ this
 ·refine List.mem_append_right _ ?_
  rw[←hh.fold]
  exact List.mem_singleton.2 rfl
theorem XR.syn_ {A:Z4} (hh:A.Hist):XR (Xg A) [A.files]:=by
 intro nm
 have hx:=hh.syns
 have hsf:XP (Xg A).syn (Xg A).now=(Xg A).now:=Z5g A.syn (Int.le_refl _)
 unfold UZ
 rw[hsf,Z2y (fun c hc=>by have:=hx.at_ c hc;omega)]
 exact List.mem_singleton.2 hx.fold.symm
theorem XR.now {A A':Z4} {P:List (List (ByteArray × Nat))} (h:XR A P) (hh:A.Hist) (h1:A'.chg=A.chg) (h2:A'.syn=A.syn) (h3:A'.base=A.base) (h4:A.now≤A'.now):XR A' P:=by
 intro nm
 have:=h nm
 unfold UZ at this ⊢
 rw[h1,h2,h3,Z2o (b:=A.now) (fun n hn=>⟨by have:=hh.syn n hn;omega,hh.syn n hn⟩),Z30 (b:=A.now) (fun c hc=>⟨by have:=hh.at_ c hc;omega,hh.at_ c hc⟩),RB (b:=A.now) (fun c hc=>⟨by have:=hh.at_ c hc;omega,hh.at_ c hc⟩)]
 exact this
theorem Z7p {a b torn:Int} {ks:List Bool} {ps:List PcA} (h:∀ p∈ps,(p.came≤a∧p.safe≤a)∧(p.came≤b∧p.safe≤b)):Sr a ks torn ps=Sr b ks torn ps:=by
 have key:∀ (ps:List PcA) (s:UA),(∀ p∈ps,(p.came≤a∧p.safe≤a)∧(p.came≤b∧p.safe≤b))→ps.foldl (Ya a ks torn) s=ps.foldl (Ya b ks torn) s:=by
  intro ps
  induction ps with
  | nil=>intro s _;rfl
  | cons p ps ih =>
   intro s h
   have hp:=h p (by simp)
   have e:Ya a ks torn s p=Ya b ks torn s p:=by
    unfold Ya
    rw[if_neg (by omega),if_neg (show ¬ b<p.came by omega)]
    have e1:(p.safe≠0∧p.safe≤a)↔(p.safe≠0∧p.safe≤b):=by constructor <;> (rintro ⟨h1,h2⟩;exact ⟨h1,by omega⟩)
    simp only[e1]
   rw[List.foldl_cons,List.foldl_cons,e]
   exact ih _ (fun q hq=>h q (by simp[hq]))
 unfold Sr Rx
 rw[key ps _ h]
end Go.Proofs.YtgmdimbiipemhaaGreatDoor
namespace Go.Proofs.YtgmdimbiipemhaaGreatDoor
open Go.RowKit
structure St where
 n:Int
 r:Int
 deriving DecidableEq
def ZP (s:St):Bool:=decide (1≤s.n∧s.n≤1048576∧0≤s.r∧s.r<8)
theorem Z29 (a b:Int) (w:World) :
  Calls Tryz.prog 138 #[.agg #[.int .i64 a,.int .i64 b]] w
   fun e w'=>e=.returned (.bool (ZP ⟨a,b⟩))∧Below w.heap.size w w':=by
 by_cases h1:1≤a
 ·by_cases h2:a≤1048576
  ·by_cases h3:0≤b
   ·by_cases h4:b<8
    ·have hr:ZP ⟨a,b⟩=true:=by simp only[ZP,decide_eq_true_eq];exact ⟨h1,h2,h3,h4⟩
     rw[hr];clear hr
     go_enter Tryz.func138,Tryz.ntmps138
     go_wp2
     go_ret
     exact ⟨rfl,(Below.refl _ _).alloc (Nat.le_refl _) _⟩
    ·have hr:ZP ⟨a,b⟩=false:=by simp only[ZP,decide_eq_false_iff_not];omega
     rw[hr];clear hr
     go_enter Tryz.func138,Tryz.ntmps138
     go_wp2
     go_ret
     exact ⟨rfl,(Below.refl _ _).alloc (Nat.le_refl _) _⟩
   ·have hr:ZP ⟨a,b⟩=false:=by simp only[ZP,decide_eq_false_iff_not];omega
    rw[hr];clear hr
    go_enter Tryz.func138,Tryz.ntmps138
    go_wp2
    go_ret
    exact ⟨rfl,(Below.refl _ _).alloc (Nat.le_refl _) _⟩
  ·have hr:ZP ⟨a,b⟩=false:=by simp only[ZP,decide_eq_false_iff_not];omega
   rw[hr];clear hr
   go_enter Tryz.func138,Tryz.ntmps138
   go_wp2
   go_ret
   exact ⟨rfl,(Below.refl _ _).alloc (Nat.le_refl _) _⟩
 ·have hr:ZP ⟨a,b⟩=false:=by simp only[ZP,decide_eq_false_iff_not];omega
  rw[hr];clear hr
  go_enter Tryz.func138,Tryz.ntmps138
  go_wp2
  go_ret
  exact ⟨rfl,(Below.refl _ _).alloc (Nat.le_refl _) _⟩
end Go.Proofs.YtgmdimbiipemhaaGreatDoor
namespace Go.Proofs.YtgmdimbiipemhaaGreatDoor
open Go.RowKit Go.Deep
structure OpD where
 id:St
 d0:Int
 d1:Int
 d2:Int
 d3:Int
 d4:Int
 d5:Int
 d6:Int
 d7:Int
 kind:Int
 ref:St
 side:Int
 ch:Int
 under:St
 key:ByteArray
 name:ByteArray
 value:ByteArray
 fr:St
 fa:Bool
 tr:St
 ta:Bool
 deriving DecidableEq
def OpD.cells (x:OpD):List Value:=[.int .i64 x.id.n,.int .i64 x.id.r,.int .i64 x.d0,.int .i64 x.d1,.int .i64 x.d2,.int .i64 x.d3,.int .i64 x.d4,.int .i64 x.d5,.int .i64 x.d6,.int .i64 x.d7,.int .i64 x.kind,.int .i64 x.ref.n,.int .i64 x.ref.r,.int .i64 x.side,.int .i64 x.ch,.int .i64 x.under.n,.int .i64 x.under.r,.string x.key,.string x.name,.string x.value,.int .i64 x.fr.n,.int .i64 x.fr.r,.bool x.fa,.int .i64 x.tr.n,.int .i64 x.tr.r,.bool x.ta]
theorem OpD.len (x:OpD):x.cells.length=26:=rfl
theorem OpD.one (x:OpD):∀ u∈x.cells,u.oneCell'=true:=by
 intro u hu
 simp only[OpD.cells,List.mem_cons,List.not_mem_nil,or_false] at hu
 rcases hu with rfl|rfl|rfl|rfl|rfl|rfl|rfl|rfl|rfl|rfl|rfl|rfl|rfl|rfl|rfl|rfl|rfl|rfl|rfl|rfl|rfl|rfl|rfl|rfl|rfl|rfl <;> rfl
def OpD.val (x:OpD):Value:=.agg x.cells.toArray
def OpD.deps (x:OpD):List Int:=[x.d0,x.d1,x.d2,x.d3,x.d4,x.d5,x.d6,x.d7]
def WZ (ds:List Int) (s:St):Bool:=decide (0≤s.r∧s.r<8) && decide (s.n≤ds.getD s.r.toNat 0)
def OpD.may (x:OpD) (s:St):Bool:=ZP s && WZ x.deps s
theorem Rb (w:World) (cs:List Value) (T:TypeId) (j:Nat) (u:Value) (h:cs[j]?=some u):(w.alloc (.cells cs.toArray T)).cell? ⟨w.heap.size,j,none⟩=some u:=by
 rw[World.cell?_alloc_at _ _ _ _ rfl,←h]
 simp
end Go.Proofs.YtgmdimbiipemhaaGreatDoor
namespace Go.Proofs.YtgmdimbiipemhaaGreatDoor
open Go
section
variable {P:Program} {ops:Array Oper} {Q:Exit→Act→World→Prop} {md:Region.Mode} {S:World→Prop} {Z:Nat→Bool}
def Y6 (P:Program) (md:Region.Mode) (ops:Array Oper) (Q:Exit→Act→World→Prop) (S:World→Prop) (Z:Nat→Bool):Nat→Array Bool→Act→World→Prop
 | 0,listed,a,w=>Region.ready md ops listed=[]∧Q .normal a w
 | fuel+1,listed,a,w =>
  (Region.ready md ops listed=[]→Q .normal a w) ∧
  ∀ i∈Region.ready md ops listed,wpOp P ops Q i (fun a' w'=>(Z i=false→S w')∧Y6 P md ops Q S Z fuel (listed.setIfInBounds i true) a' w') a w
theorem Sg:∀ (fuel:Nat) (listed:Array Bool) (a:Act) (w:World),Y6 P md ops Q S Z fuel listed a w→wpAny P md ops Q fuel listed a w
 | 0,_,_,_,h=>h
 | fuel+1,_,_,_,h=>⟨h.1,fun i hi=>wpOp_mono (fun a' w' h'=>Sg fuel _ a' w' h'.2) (h.2 i hi)⟩
def Z6j (listed:Array Bool) (js:List Nat):Array Bool:=js.foldl (fun l j=>l.setIfInBounds j true) listed
theorem Z0L {k:Nat}:∀ (js:List Nat) (listed:Array Bool),(Z6j listed js).getD k true=false→listed.getD k true=false
 | [],_,h=>h
 | j :: js,listed,h=>by
  have h1:=Z0L js (listed.setIfInBounds j true) h
  by_cases hjk:j=k
  ·subst hjk
   by_cases hs:j<listed.size
   ·simp[hs] at h1
   ·simp[hs] at h1
  ·rwa [getD_set_ne true hjk] at h1
theorem Z0A {k:Nat}:∀ (js:List Nat) (listed:Array Bool),k∉js→listed.getD k true=false→(Z6j listed js).getD k true=false
 | [],_,_,h=>h
 | j :: js,listed,hn,h=>Z0A js _ (fun e=>hn (by simp[e])) (by rw[getD_set_ne true (fun e=>hn (by simp[e]))];exact h)
theorem Z7o {listed:Array Bool} {k:Nat} (h:listed.getD k true=false):listed.getD k false=false:=by
 by_cases hs:k<listed.size
 ·simp[hs] at h ⊢;exact h
 ·simp[hs] at h
def Sf (md:Region.Mode) (ops:Array Oper) (i:Nat) (oi:Oper) (listed:Array Bool):Prop :=
 i∈Region.ready md ops listed∧∀ js,i∉js→∀ j oj,j∈Region.ready md ops (Z6j listed js)→j≠i→ops[j]?=some oj→(∀ e∈oj.after,Region.binds md e=true→e.on≠i)∧oi.apart ops oj=true
theorem Sf.step {i j:Nat} {oi:Oper} {listed:Array Bool} (h:Sf md ops i oi listed) (hj:j≠i):Sf md ops i oi (listed.setIfInBounds j true) :=
 ⟨ready_mono h.1 (Ne.symm hj),fun js hn=>h.2 (j :: js) (by simp[hn,Ne.symm hj])⟩
theorem Sf.of_free {i:Nat} {oi:Oper} {listed:Array Bool} (hi:ops[i]?=some oi) (hr:i∈Region.ready md ops listed) (hf:Region.free md ops listed i=true):Sf md ops i oi listed:=by
 refine ⟨hr,fun js hn j oj hj hji hoj=>?_⟩
 obtain ⟨hun,o,ho,hall⟩:=mem_ready.1 hj
 rw[hoj] at ho
 cases ho
 have hno:∀ e∈oj.after,Region.binds md e=true→e.on≠i:=fun e he hb hei=>by
  have h1:=hall e he hb
  rw[hei,Z7o (Z0A js listed hn (mem_ready.1 hr).1)] at h1
  cases h1
 exact ⟨hno,Region.free_spec hi hf j oj hoj hji (Z0L js listed hun) hno⟩
theorem Z67 {fuel:Nat} {listed:Array Bool} {a:Act} {w:World} (h:Y6 P md ops Q S Z fuel listed a w) {j:Nat} (hj:j∈Region.ready md ops listed) :
  ∃ n,fuel=n+1∧wpOp P ops Q j (fun a' w'=>(Z j=false→S w')∧Y6 P md ops Q S Z n (listed.setIfInBounds j true) a' w') a w:=by
 cases fuel with
 | zero=>exact absurd (h.1 ▸ hj:j∈[]) (by simp)
 | succ n=>exact ⟨n,rfl,h.2 j hj⟩
def Z2W (md:Region.Mode) (ops:Array Oper) (Z:Nat→Bool) (listed:Array Bool) (i:Nat):Bool :=
 (List.range ops.size).all fun j=>listed.getD j true || !Z j || (match ops[j]? with
  | some o=>o.after.any fun e=>Region.binds md e && e.on == i
  | none=>true)
theorem Z41 {i j:Nat} {oj:Oper} {listed:Array Bool} (h:Z2W md ops Z listed i=true) (hz:Z j=true) (hu:listed.getD j true=false) (hj:ops[j]?=some oj):∃ e∈oj.after,Region.binds md e=true∧e.on=i:=by
 have hjs:j<ops.size:=(Array.getElem?_eq_some_iff.1 hj).1
 have:=List.all_eq_true.1 h j (List.mem_range.2 hjs)
 rw[hz,hj,hu] at this
 simp only[Bool.not_true,Bool.false_or,Array.any_eq_true,Bool.and_eq_true,beq_iff_eq] at this
 obtain ⟨k,hk,h1,h2⟩:=this
 exact ⟨_,Array.getElem_mem hk,h1,h2⟩
theorem Z3p {i:Nat} {oi:Oper} {v:Value} (hi:ops[i]?=some oi)
  (hsel:∀ (j:Nat) (o:Oper) cs b,ops[j]?=some o→o.op≠.select cs b) (hQ:∀ c a w,Q (.panic c) (a.put oi.dst v) w→Q (.panic c) a w) (hiz:Z i=false) (fuel:Nat) :
  ∀ (listed:Array Bool) (a:Act) (w:World),(∀ j oj,Z j=true→listed.getD j true=false→ops[j]?=some oj→∃ e∈oj.after,Region.binds md e=true∧e.on=i)→Sf md ops i oi listed→YieldsIf P ops S oi v a→S w →
   Y6 P md ops Q S Z fuel (listed.setIfInBounds i true) (a.put oi.dst v) w→Y6 P md ops Q S Z (fuel+1) listed a w:=by
 induction fuel using Nat.strongRecOn with
 | _ fuel ih =>
  intro listed a w hwait hA hy hS H
  refine ⟨fun h0=>absurd (h0 ▸ hA.1:i∈[]) (by simp),fun j hj=>?_⟩
  rcases Decidable.em (j=i) with hji|hji
  ·rw[hji]
   exact hy.wpOp hi hS ⟨fun _=>hS,H⟩
  ·obtain ⟨n,rfl,hop⟩:=Z67 H (ready_mono hj hji)
   obtain ⟨oj,hoj⟩:∃ oj,ops[j]?=some oj:=by
    obtain ⟨_,oj,hoj,_⟩:=mem_ready.1 hj
    exact ⟨oj,hoj⟩
   obtain ⟨hno,hap⟩:=hA.2 [] (by simp) j oj hj hji hoj
   have hjz:Z j=false:=by
    cases hz:Z j with
    | false=>rfl
    | true =>
     obtain ⟨e,he,hb,hei⟩:=hwait j oj hz (mem_ready.1 hj).1 hoj
     exact absurd hei (hno e he hb)
   refine wpOp_mono ?_ (wpOp_putIf hoj hap (fun cs b=>hsel i oi cs b hi) (fun cs b=>hsel j oj cs b hoj) hQ hy hop)
   rintro a' w' ⟨hy',hS',H'⟩
   rw[Array.setIfInBounds_comm _ _ (Ne.symm hji)] at H'
   exact ⟨hS',ih n (Nat.lt_succ_self n) _ a' w' (fun q oq hq hu=>hwait q oq hq (Z0L [j] listed hu)) (hA.step hji) hy' (hS' hjz) H'⟩
theorem RX {i:Nat} {oi:Oper} {d:Option Tmp} {v:Value} {fuel:Nat} {listed:Array Bool} {a:Act} {w:World} (hi:ops[i]?=some oi) (hd:oi.dst=d) (hiz:Z i=false) (hwait:Z2W md ops Z listed i=true)
  (hs:Region.noSelect ops=true) (hf:Region.free md ops listed i=true) (hr:(Region.ready md ops listed).contains i=true)
  (hQ:∀ c a w,Q (.panic c) (a.put d v) w→Q (.panic c) a w) (hy:YieldsIf P ops S oi v a) (hS:S w)
  (h:Y6 P md ops Q S Z fuel (listed.setIfInBounds i true) (a.put d v) w):Y6 P md ops Q S Z (fuel+1) listed a w:=by
 subst hd
 exact Z3p hi (Region.noSelect_spec hs) hQ hiz fuel listed a w (fun j oj hz hu hj=>Z41 hwait hz hu hj) (Sf.of_free hi (by simpa using hr) hf) hy hS h
theorem Ja:(∀ (T:Array Value) (D:List Deferred) (d:Tmp) (v:Value),Act.put ⟨T,D⟩ (some d) v=⟨T.setIfInBounds d v,D⟩)∧(∀ (a:Act) (v:Value),a.put none v=a)∧(∀ (l:List Value) (i:Nat) (a:Value),l.toArray.setIfInBounds i a=(l.set i a).toArray)∧(∀ (x:Value) (l:List Value) (y:Value),(x :: l).set 0 y=y :: l)∧(∀ (x:Value) (l:List Value) (i:Nat) (y:Value),(x :: l).set (i+1) y=x :: l.set i y) :=
 ⟨fun _ _ _ _=>rfl,fun _ _=>rfl,fun _ _ _=>List.setIfInBounds_toArray ..,fun _ _ _=>rfl,fun _ _ _ _=>rfl⟩
def Jd (md:Region.Mode) (ops:Array Oper) (Z:Nat→Bool) (listed:Array Bool) (i:Nat):Bool:=!Z i && (Z2W md ops Z listed i && (Region.noSelect ops && (Region.free md ops listed i && (Region.ready md ops listed).contains i)))
theorem JR (i t:Nat) (v:Value) {oi:Oper} {fuel:Nat} {listed:Array Bool} {a:Act} {w:World} (hi:ops[i]?=some oi) (hd:oi.dst=some t) (hS:S w) (hy:∀ W,S W→(execOp a.eval oi).run P W=.ok (.value v) W)
  (h:Y6 P md ops Q S Z fuel (listed.setIfInBounds i true) (a.put (some t) v) w) (hk:Jd md ops Z listed i=true:=by kernel_rfl) (hQ:∀ c a w,Q (.panic c) (a.put (some t) v) w→Q (.panic c) a w:=by exact fun _ _ _ h=>h) (hw:Region.wanted oi (yielded ops a.tmps)=true:=by rfl):Y6 P md ops Q S Z (fuel+1) listed a w:=by
 simp only[Jd,Bool.and_eq_true,Bool.not_eq_true'] at hk
 exact RX hi hd hk.1 hk.2.1 hk.2.2.1 hk.2.2.2.1 hk.2.2.2.2 hQ (.inl ⟨hw,hy⟩) hS h
theorem J0 (i t:Nat) (v:Value) {oi:Oper} {fuel:Nat} {listed:Array Bool} {a:Act} {w:World} (hS:S w) (h:Y6 P md ops Q S Z fuel (listed.setIfInBounds i true) (a.put (some t) v) w) (hi:ops[i]?=some oi:=by rfl) (hd:oi.dst=some t:=by rfl) (hy:∀ W,S W→(execOp a.eval oi).run P W=.ok (.value v) W:=by intro W hW;go_simp;try rfl)
  (hk:Jd md ops Z listed i=true:=by kernel_rfl) (hQ:∀ c a w,Q (.panic c) (a.put (some t) v) w→Q (.panic c) a w:=by exact fun _ _ _ h=>h) (hw:Region.wanted oi (yielded ops a.tmps)=true:=by rfl):Y6 P md ops Q S Z (fuel+1) listed a w:=JR i t v hi hd hS hy h hk hQ hw
theorem J2 (i t:Nat) (v:Value) {oi:Oper} {fuel:Nat} {listed:Array Bool} {a:Act} {w:World} (hS:S w) (h:Y6 P md ops Q S Z fuel (listed.setIfInBounds i true) (a.put (some t) v) w) (hi:ops[i]?=some oi:=by rfl) (hd:oi.dst=some t:=by rfl) (hy:∀ W,S W→(execOp a.eval oi).run P W=.ok (.value v) W:=by intro W hW;obtain ⟨q0,q1⟩:=hW;go_simp;try rfl)
  (hk:Jd md ops Z listed i=true:=by kernel_rfl) (hQ:∀ c a w,Q (.panic c) (a.put (some t) v) w→Q (.panic c) a w:=by exact fun _ _ _ h=>h) (hw:Region.wanted oi (yielded ops a.tmps)=true:=by rfl):Y6 P md ops Q S Z (fuel+1) listed a w:=JR i t v hi hd hS hy h hk hQ hw
theorem J3 (i t:Nat) (v:Value) {oi:Oper} {fuel:Nat} {listed:Array Bool} {a:Act} {w:World} (hS:S w) (h:Y6 P md ops Q S Z fuel (listed.setIfInBounds i true) (a.put (some t) v) w) (hi:ops[i]?=some oi:=by rfl) (hd:oi.dst=some t:=by rfl) (hy:∀ W,S W→(execOp a.eval oi).run P W=.ok (.value v) W:=by intro W hW;obtain ⟨q0,q1,q2⟩:=hW;go_simp;try rfl)
  (hk:Jd md ops Z listed i=true:=by kernel_rfl) (hQ:∀ c a w,Q (.panic c) (a.put (some t) v) w→Q (.panic c) a w:=by exact fun _ _ _ h=>h) (hw:Region.wanted oi (yielded ops a.tmps)=true:=by rfl):Y6 P md ops Q S Z (fuel+1) listed a w:=JR i t v hi hd hS hy h hk hQ hw
theorem J4 (i t:Nat) (v:Value) {oi:Oper} {fuel:Nat} {listed:Array Bool} {a:Act} {w:World} (hS:S w) (h:Y6 P md ops Q S Z fuel (listed.setIfInBounds i true) (a.put (some t) v) w) (hi:ops[i]?=some oi:=by rfl) (hd:oi.dst=some t:=by rfl) (hy:∀ W,S W→(execOp a.eval oi).run P W=.ok (.value v) W:=by intro W hW;obtain ⟨q0,q1,q2,q3⟩:=hW;go_simp;try rfl)
  (hk:Jd md ops Z listed i=true:=by kernel_rfl) (hQ:∀ c a w,Q (.panic c) (a.put (some t) v) w→Q (.panic c) a w:=by exact fun _ _ _ h=>h) (hw:Region.wanted oi (yielded ops a.tmps)=true:=by rfl):Y6 P md ops Q S Z (fuel+1) listed a w:=JR i t v hi hd hS hy h hk hQ hw
theorem JO (i t:Nat) {oi:Oper} {fuel:Nat} {listed:Array Bool} {a:Act} {w:World} (hi:ops[i]?=some oi) (hd:oi.dst=some t) (hS:S w)
  (h:Y6 P md ops Q S Z fuel (listed.setIfInBounds i true) (a.put (some t) undef) w) (hk:Jd md ops Z listed i=true:=by kernel_rfl) (hQ:∀ c a w,Q (.panic c) (a.put (some t) undef) w→Q (.panic c) a w:=by exact fun _ _ _ h=>h) (hw:Region.wanted oi (yielded ops a.tmps)=false:=by rfl):Y6 P md ops Q S Z (fuel+1) listed a w:=by
 simp only[Jd,Bool.and_eq_true,Bool.not_eq_true'] at hk
 exact RX hi hd hk.1 hk.2.1 hk.2.2.1 hk.2.2.2.1 hk.2.2.2.2 hQ (.inr ⟨hw,rfl⟩) hS h
theorem SN {i:Nat} {fuel:Nat} {listed:Array Bool} {a:Act} {w:World} (hr:Region.ready md ops listed=[i])
  (h:wpOp P ops Q i (fun a' w'=>(Z i=false→S w')∧Y6 P md ops Q S Z fuel (listed.setIfInBounds i true) a' w') a w):Y6 P md ops Q S Z (fuel+1) listed a w :=
 ⟨fun h0=>absurd (hr.symm.trans h0) (by simp),fun j hj=>by rw[hr] at hj;rw[List.mem_singleton.1 hj];exact h⟩
theorem Zn {i:Nat} {o:Oper} {d:Option Tmp} {fuel:Nat} {listed:Array Bool} {a:Act} {w w':World} (hr:Region.ready md ops listed=[i]) (ho:ops[i]?=some o) (hd:o.dst=d) (hw:Region.wanted o (yielded ops a.tmps)=true)
  (hv:(execOp a.eval o).run P w=.ok .skip w') (hS:Z i=false→S w') (h:Y6 P md ops Q S Z fuel (listed.setIfInBounds i true) (a.put d undef) w'):Y6 P md ops Q S Z (fuel+1) listed a w:=by
 subst hd
 exact SN hr (wpOp_step ho fun K' hK=>by
  rw[if_pos hw,Oper.wp,hv]
  exact hK _ _ ⟨hS,h⟩)
theorem Z3 {listed:Array Bool} {a:Act} {w:World} (hr:Region.ready md ops listed=[]) (h:Q .normal a w):∀ fuel,Y6 P md ops Q S Z fuel listed a w
 | 0=>⟨hr,h⟩
 | _+1=>⟨fun _=>h,by rw[hr];simp⟩
theorem Z6 {id:Nat} {a:Act} {w:World} (S:World→Prop) (Z:Nat→Bool) (hm:P.follows .mixedOrders=true)
  (h:Y6 P .any ops Q S Z ops.size (Array.replicate ops.size false) a w.drew):(Code.region id ops true).wp P Q a w :=
 wp_region_any hm (Sg _ _ _ _ h)
end
end Go.Proofs.YtgmdimbiipemhaaGreatDoor
namespace Go.Proofs.YtgmdimbiipemhaaGreatDoor
open Go Go.RowKit Go.Deep
section
variable {P:Program} {ops:Array Oper} {Q:Exit→Act→World→Prop} {md:Region.Mode} {S:World→Prop} {Z:Nat→Bool}
theorem Zk {i:Nat} {o:Oper} {d:Option Tmp} {v:Value} {fuel:Nat} {listed:Array Bool} {a:Act} {w w':World} (hr:Region.ready md ops listed=[i]) (ho:ops[i]?=some o) (hd:o.dst=d) (hw:Region.wanted o (yielded ops a.tmps)=true)
  (hv:(execOp a.eval o).run P w=.ok (.value v) w') (hS:Z i=false→S w') (h:Y6 P md ops Q S Z fuel (listed.setIfInBounds i true) (a.put d v) w'):Y6 P md ops Q S Z (fuel+1) listed a w:=by
 subst hd
 exact SN hr (wpOp_step ho fun K' hK=>by
  rw[if_pos hw,Oper.wp,hv]
  exact hK _ _ ⟨hS,h⟩)
theorem Zm {i:Nat} {o:Oper} {d:Option Tmp} {f:FuncId} {args:Array Value} {fuel:Nat} {listed:Array Bool} {a:Act} {w w':World} (hr:Region.ready md ops listed=[i]) (ho:ops[i]?=some o) (hd:o.dst=d) (hw:Region.wanted o (yielded ops a.tmps)=true)
  (hv:(execOp a.eval o).run P w=.ok (.enter f args) w')
  (h:Calls P f args w' fun e w''=>∃ v,e=.returned v∧(Z i=false→S w'')∧Y6 P md ops Q S Z fuel (listed.setIfInBounds i true) (a.put d v) w''):Y6 P md ops Q S Z (fuel+1) listed a w:=by
 subst hd
 exact SN hr (wpOp_step ho fun K' hK=>by
  rw[if_pos hw,Oper.wp,hv,Oper.upon_enter]
  refine Calls.mono h ?_
  rintro e w'' ⟨v,rfl,h1,h2⟩
  exact hK _ _ ⟨h1,h2⟩)
theorem Xp {o:Oper} {a:Act} {w w':World} {s x:Operand} {t tn:TypeId} {v vx v':Value} (hop:o.op=.call { callee:=.builtin .append,args:=#[s,x],argTypes:=#[t,tn] }) (hs:a.eval s=v) (hx:a.eval x=vx)
  (hr:(Builtin.append_ #[t,tn] o.type #[v,vx]).run P w=.ok v' w'):(execOp a.eval o).run P w=.ok (.value v') w':=by
 unfold execOp
 simp only[hop,resolve,invoke,builtin,Sem.run_bind,Sem.run_pure,Result.andThen_ok,List.map_toArray,List.map_cons,List.map_nil,hs,hx,hr]
end
end Go.Proofs.YtgmdimbiipemhaaGreatDoor
namespace Go.Proofs
open Go.Shelf
def Tryz.mulF_ren:Go.Shelf.Ren:=⟨fun|212=>204|263=>215|264=>216|n=>n,fun|46=>189|51=>199|146=>292|53=>97|148=>294|n=>n,fun|n=>n⟩
theorem Tryz.mulF:Go.Proofs.Lays.n212 Tryz.prog Tryz.mulF_ren:={
 mixed:=by kernel_rfl
 f212:=Tryz.func204.trans (congrArg some (by kernel_rfl))
 f263:=Tryz.func215.trans (congrArg some (by kernel_rfl))
 f264:=Tryz.func216.trans (congrArg some (by kernel_rfl))
 t46:=Tryz.underlying189
 a46:=Tryz.isAgg189
 z46:=Tryz.sizeOf189
 v46:=Tryz.zeroValue189
 t51:=Tryz.underlying199
 a51:=Tryz.isAgg199
 z51:=Tryz.sizeOf199
 v51:=Tryz.zeroValue199
 t53:=Tryz.underlying97
 a53:=Tryz.isAgg97
 z53:=Tryz.sizeOf97
 v53:=Tryz.zeroValue97
 t146:=Tryz.underlying292
 a146:=Tryz.isAgg292
 z146:=Tryz.sizeOf292
 v146:=Tryz.zeroValue292
 t148:=Tryz.underlying294
 a148:=Tryz.isAgg294
 z148:=Tryz.sizeOf294
 v148:=Tryz.zeroValue294 }
def Tryz.minF_ren:Go.Shelf.Ren:=⟨fun|114=>139|n=>n,fun|28=>100|3=>3|4=>4|9=>9|20=>20|0=>0|n=>n,fun|n=>n⟩
theorem Tryz.minF:Go.Proofs.Lays.n114 Tryz.prog Tryz.minF_ren:={
 mixed:=by kernel_rfl
 f114:=Tryz.func139.trans (congrArg some (by kernel_rfl))
 t0:=Tryz.underlying0
 a0:=Tryz.isAgg0
 z0:=Tryz.sizeOf0
 v0:=Tryz.zeroValue0
 t3:=Tryz.underlying3
 a3:=Tryz.isAgg3
 z3:=Tryz.sizeOf3
 v3:=Tryz.zeroValue3
 t4:=Tryz.underlying4
 a4:=Tryz.isAgg4
 z4:=Tryz.sizeOf4
 v4:=Tryz.zeroValue4
 t9:=Tryz.underlying9
 a9:=Tryz.isAgg9
 z9:=Tryz.sizeOf9
 v9:=Tryz.zeroValue9
 t20:=Tryz.underlying20
 a20:=Tryz.isAgg20
 z20:=Tryz.sizeOf20
 v20:=Tryz.zeroValue20
 t28:=Tryz.underlying100
 a28:=Tryz.isAgg100
 z28:=Tryz.sizeOf100
 v28:=Tryz.zeroValue100 }
def Tryz.maxF_ren:Go.Shelf.Ren:=⟨fun|113=>174|n=>n,fun|28=>100|3=>3|4=>4|9=>9|20=>20|0=>0|n=>n,fun|n=>n⟩
theorem Tryz.maxF:Go.Proofs.Lays.n113 Tryz.prog Tryz.maxF_ren:={
 mixed:=by kernel_rfl
 f113:=Tryz.func174.trans (congrArg some (by kernel_rfl))
 t0:=Tryz.underlying0
 a0:=Tryz.isAgg0
 z0:=Tryz.sizeOf0
 v0:=Tryz.zeroValue0
 t3:=Tryz.underlying3
 a3:=Tryz.isAgg3
 z3:=Tryz.sizeOf3
 v3:=Tryz.zeroValue3
 t4:=Tryz.underlying4
 a4:=Tryz.isAgg4
 z4:=Tryz.sizeOf4
 v4:=Tryz.zeroValue4
 t9:=Tryz.underlying9
 a9:=Tryz.isAgg9
 z9:=Tryz.sizeOf9
 v9:=Tryz.zeroValue9
 t20:=Tryz.underlying20
 a20:=Tryz.isAgg20
 z20:=Tryz.sizeOf20
 v20:=Tryz.zeroValue20
 t28:=Tryz.underlying100
 a28:=Tryz.isAgg100
 z28:=Tryz.sizeOf100
 v28:=Tryz.zeroValue100 }
def Tryz.cloneF_ren:Go.Shelf.Ren:=⟨fun|15=>146|n=>n,fun|22=>100|3=>3|4=>4|n=>n,fun|n=>n⟩
theorem Tryz.cloneF:Go.Proofs.Lays2.n15 Tryz.prog Tryz.cloneF_ren:={
 mixed:=by kernel_rfl
 f15:=Tryz.func146.trans (congrArg some (by kernel_rfl))
 t3:=Tryz.underlying3
 a3:=Tryz.isAgg3
 z3:=Tryz.sizeOf3
 v3:=Tryz.zeroValue3
 t4:=Tryz.underlying4
 a4:=Tryz.isAgg4
 z4:=Tryz.sizeOf4
 v4:=Tryz.zeroValue4
 t22:=Tryz.underlying100
 a22:=Tryz.isAgg100
 z22:=Tryz.sizeOf100
 v22:=Tryz.zeroValue100
 i3:=by kernel_rfl }
def Tryz.sufF_ren:Go.Shelf.Ren:=⟨fun|100=>177|207=>203|n=>n,fun|9=>9|4=>4|3=>3|n=>n,fun|n=>n⟩
theorem Tryz.sufF:Go.Proofs.Lays.n100 Tryz.prog Tryz.sufF_ren:={
 mixed:=by kernel_rfl
 f100:=Tryz.func177.trans (congrArg some (by kernel_rfl))
 f207:=Tryz.func203.trans (congrArg some (by kernel_rfl))
 t3:=Tryz.underlying3
 a3:=Tryz.isAgg3
 z3:=Tryz.sizeOf3
 v3:=Tryz.zeroValue3
 t4:=Tryz.underlying4
 a4:=Tryz.isAgg4
 z4:=Tryz.sizeOf4
 v4:=Tryz.zeroValue4
 t9:=Tryz.underlying9
 a9:=Tryz.isAgg9
 z9:=Tryz.sizeOf9
 v9:=Tryz.zeroValue9 }
def Tryz.trimF_ren:Go.Shelf.Ren:=⟨fun|160=>176|232=>197|231=>196|227=>198|234=>200|233=>199|236=>202|235=>201|228=>211|271=>214|151=>213|197=>212|120=>220|152=>219|260=>218|137=>221|119=>222|224=>223|225=>224|217=>225|266=>226|n=>n,fun|9=>9|4=>4|3=>3|5=>5|117=>277|116=>276|0=>0|124=>280|21=>21|105=>289|46=>189|119=>300|139=>303|138=>302|n=>n,fun|3=>2|4=>3|n=>n⟩
theorem Tryz.trimF:Go.Proofs.Lays.n160 Tryz.prog Tryz.trimF_ren:={
 mixed:=by kernel_rfl
 f119:=Tryz.func222.trans (congrArg some (by kernel_rfl))
 f120:=Tryz.func220.trans (congrArg some (by kernel_rfl))
 f137:=Tryz.func221.trans (congrArg some (by kernel_rfl))
 f151:=Tryz.func213.trans (congrArg some (by kernel_rfl))
 f152:=Tryz.func219.trans (congrArg some (by kernel_rfl))
 f160:=Tryz.func176.trans (congrArg some (by kernel_rfl))
 f197:=Tryz.func212.trans (congrArg some (by kernel_rfl))
 f217:=Tryz.func225.trans (congrArg some (by kernel_rfl))
 f224:=Tryz.func223.trans (congrArg some (by kernel_rfl))
 f225:=Tryz.func224.trans (congrArg some (by kernel_rfl))
 f227:=Tryz.func198.trans (congrArg some (by kernel_rfl))
 f228:=Tryz.func211.trans (congrArg some (by kernel_rfl))
 f231:=Tryz.func196.trans (congrArg some (by kernel_rfl))
 f232:=Tryz.func197.trans (congrArg some (by kernel_rfl))
 f233:=Tryz.func199.trans (congrArg some (by kernel_rfl))
 f234:=Tryz.func200.trans (congrArg some (by kernel_rfl))
 f235:=Tryz.func201.trans (congrArg some (by kernel_rfl))
 f236:=Tryz.func202.trans (congrArg some (by kernel_rfl))
 f260:=Tryz.func218.trans (congrArg some (by kernel_rfl))
 f266:=Tryz.func226.trans (congrArg some (by kernel_rfl))
 f271:=Tryz.func214.trans (congrArg some (by kernel_rfl))
 t0:=Tryz.underlying0
 a0:=Tryz.isAgg0
 z0:=Tryz.sizeOf0
 v0:=Tryz.zeroValue0
 t3:=Tryz.underlying3
 a3:=Tryz.isAgg3
 z3:=Tryz.sizeOf3
 v3:=Tryz.zeroValue3
 t4:=Tryz.underlying4
 a4:=Tryz.isAgg4
 z4:=Tryz.sizeOf4
 v4:=Tryz.zeroValue4
 t5:=Tryz.underlying5
 a5:=Tryz.isAgg5
 z5:=Tryz.sizeOf5
 v5:=Tryz.zeroValue5
 t9:=Tryz.underlying9
 a9:=Tryz.isAgg9
 z9:=Tryz.sizeOf9
 v9:=Tryz.zeroValue9
 t21:=Tryz.underlying21
 a21:=Tryz.isAgg21
 z21:=Tryz.sizeOf21
 v21:=Tryz.zeroValue21
 t46:=Tryz.underlying189
 a46:=Tryz.isAgg189
 z46:=Tryz.sizeOf189
 v46:=Tryz.zeroValue189
 t105:=Tryz.underlying289
 a105:=Tryz.isAgg289
 z105:=Tryz.sizeOf289
 v105:=Tryz.zeroValue289
 t116:=Tryz.underlying276
 a116:=Tryz.isAgg276
 z116:=Tryz.sizeOf276
 t117:=Tryz.underlying277
 a117:=Tryz.isAgg277
 z117:=Tryz.sizeOf277
 v117:=Tryz.zeroValue277
 t119:=Tryz.underlying300
 a119:=Tryz.isAgg300
 z119:=Tryz.sizeOf300
 t124:=Tryz.underlying280
 a124:=Tryz.isAgg280
 z124:=Tryz.sizeOf280
 v124:=Tryz.zeroValue280
 t138:=Tryz.underlying302
 a138:=Tryz.isAgg302
 z138:=Tryz.sizeOf302
 v138:=Tryz.zeroValue302
 t139:=Tryz.underlying303
 a139:=Tryz.isAgg303
 z139:=Tryz.sizeOf303
 v139:=Tryz.zeroValue303
 g3:=by kernel_rfl
 g4:=by kernel_rfl }
end Go.Proofs
namespace Go.Proofs.YtgmdimbiipemhaaGreatDoor
open Go.RowKit Go.Deep
open Go.Shelf
theorem Z23 (n r:Int) (w:World):Calls Tryz.prog 195 #[.agg #[.int .i64 n,.int .i64 r]] w fun e w'=>e=.returned (.bool (decide (0≤r∧r<8)))∧Below w.heap.size w w':=by
 by_cases h3:0≤r
 ·by_cases h4:r<8
  ·rw[decide_eq_true ⟨h3,h4⟩]
   go_enter Tryz.func195,Tryz.ntmps195
   go_wp2
   go_ret
   exact ⟨rfl,(Below.refl _ _).alloc (Nat.le_refl _) _⟩
  ·rw[decide_eq_false (fun h=>h4 h.2)]
   go_enter Tryz.func195,Tryz.ntmps195
   go_wp2
   go_ret
   exact ⟨rfl,(Below.refl _ _).alloc (Nat.le_refl _) _⟩
 ·rw[decide_eq_false (fun h=>h3 h.1)]
  go_enter Tryz.func195,Tryz.ntmps195
  go_wp2
  go_ret
  exact ⟨rfl,(Below.refl _ _).alloc (Nat.le_refl _) _⟩
theorem Z7C (d0 d1 d2 d3 d4 d5 d6 d7 n r:Int) (w:World):Calls Tryz.prog 175 #[.agg #[.int .i64 d0,.int .i64 d1,.int .i64 d2,.int .i64 d3,.int .i64 d4,.int .i64 d5,.int .i64 d6,.int .i64 d7],.agg #[.int .i64 n,.int .i64 r]] w fun e w'=>e=.returned (.bool (WZ [d0,d1,d2,d3,d4,d5,d6,d7] ⟨n,r⟩))∧Below w.heap.size w w':=by
 have HDS:∀ k:Nat,k<8→([.int .i64 d0,.int .i64 d1,.int .i64 d2,.int .i64 d3,.int .i64 d4,.int .i64 d5,.int .i64 d6,.int .i64 d7]:List Value)[k]?=some (.int .i64 (([d0,d1,d2,d3,d4,d5,d6,d7]:List Int).getD k 0)):=fun k hk=>by
  match k,hk with
  | 0,_=>rfl
  | 1,_=>rfl
  | 2,_=>rfl
  | 3,_=>rfl
  | 4,_=>rfl
  | 5,_=>rfl
  | 6,_=>rfl
  | 7,_=>rfl
 obtain ⟨W0,hW0⟩:=Je ((w.alloc (.cells #[.int .i64 d0,.int .i64 d1,.int .i64 d2,.int .i64 d3,.int .i64 d4,.int .i64 d5,.int .i64 d6,.int .i64 d7] 32)).alloc (.cells #[.int .i64 n,.int .i64 r] 62))
 have HB:Hid (Below w.heap.size w W0.drew):=Jh (by rw[←hW0];exact (((Below.refl _ _).alloc (Nat.le_refl _) _).alloc (by simp) _).drew)
 have hc0:W0.cell? ⟨w.heap.size+1,0,none⟩=some (.int .i64 n):=by rw[←hW0];clear hW0;go_simp
 have hc1:W0.cell? ⟨w.heap.size+1,1,none⟩=some (.int .i64 r):=by rw[←hW0];clear hW0;go_simp
 have hcd:∀ k:Nat,k<8→W0.cell? ⟨w.heap.size,k,none⟩=some (.int .i64 (([d0,d1,d2,d3,d4,d5,d6,d7]:List Int).getD k 0)):=fun k hk=>by
  rw[←hW0]
  exact Zt (Rb w [.int .i64 d0,.int .i64 d1,.int .i64 d2,.int .i64 d3,.int .i64 d4,.int .i64 d5,.int .i64 d6,.int .i64 d7] _ k _ (HDS k hk)) _
 have HCD:=Lib.hid hcd
 have HW:=Lib.hid hW0
 clear hcd HDS hW0
 by_cases hr:0≤r∧r<8
 ·obtain ⟨k,rfl⟩:∃ k:Nat,r=(k:Int):=⟨r.toNat,by omega⟩
  have hk:k<8:=by omega
  have hck:=HCD.out k hk
  obtain ⟨dk,hdk⟩:=Je (([d0,d1,d2,d3,d4,d5,d6,d7]:List Int).getD k 0)
  rw[hdk] at hck
  have hR:WZ [d0,d1,d2,d3,d4,d5,d6,d7] ⟨n,k⟩=decide (n≤dk):=by unfold WZ;rw[decide_eq_true hr,Bool.true_and,←hdk];rfl
  have hK:decide ((0:Int)≤(k:Int)∧(k:Int)<8)=true:=decide_eq_true hr
  rw[hR]
  have hk8:(k:Int)<8:=by omega
  have hk0:¬ (k:Int)<0:=by omega
  have hk1:(0:Int)≤(k:Int):=by omega
  obtain ⟨db,hdb⟩:=Je (decide (n≤dk))
  rw[hdb]
  have HDB:=Lib.hid hdb
  clear hdb hR hdk hr hk
  go_enter Tryz.func175,Tryz.ntmps175
  go_upto_region 1 with fail
  rw[HW.out]
  have hS0:(fun W:World=>W.cell? ⟨w.heap.size+1,0,none⟩=some (.int .i64 n)∧W.cell? ⟨w.heap.size+1,1,none⟩=some (.int .i64 k)∧W.cell? ⟨w.heap.size,k,none⟩=some (.int .i64 dk)) W0.drew:=⟨hc0,hc1,hck⟩
  clear hc0 hc1 hck HCD HW
  refine Z6 (fun W:World=>W.cell? ⟨w.heap.size+1,0,none⟩=some (.int .i64 n)∧W.cell? ⟨w.heap.size+1,1,none⟩=some (.int .i64 k)∧W.cell? ⟨w.heap.size,k,none⟩=some (.int .i64 dk)) (fun _=>false) (by kernel_rfl) ?_
  generalize W0.drew=W1 at hS0 HB ⊢
  refine J3 0 5 (.agg #[.int .i64 n,.int .i64 k]) hS0 ?_
  try simp only[Ja]
  refine Zm (i:=1) (d:=some 6) (f:=195) (args:=#[.agg #[.int .i64 n,.int .i64 k]]) (w':=W1) (by kernel_rfl) rfl rfl (by rfl) (by go_simp;try rfl) ?_
  refine (Z23 n k W1).mono ?_
  rintro e w5 ⟨rfl,b5⟩
  rw[hK]
  have hS5:(fun W:World=>W.cell? ⟨w.heap.size+1,0,none⟩=some (.int .i64 n)∧W.cell? ⟨w.heap.size+1,1,none⟩=some (.int .i64 k)∧W.cell? ⟨w.heap.size,k,none⟩=some (.int .i64 dk)) w5:=⟨Y9 b5 hS0.1,Y9 b5 hS0.2.1,Y9 b5 hS0.2.2⟩
  refine ⟨_,rfl,fun _=>hS5,?_⟩
  try simp only[Ja]
  refine J3 2 7 _ hS5 ?_
  try simp only[Ja]
  refine J3 3 8 _ hS5 ?_
  try simp only[Ja]
  refine J3 4 9 (.int .i64 k) hS5 ?_
  try simp only[Ja]
  refine J3 5 10 (.pointer (some ⟨w.heap.size,k,none⟩)) hS5 ?_
  try simp only[Ja]
  refine J3 6 11 (.int .i64 dk) hS5 ?_
  try simp only[Ja]
  refine J3 7 12 _ hS5 ?_
  try simp only[Ja]
  refine J3 8 13 (.int .i64 n) hS5 ?_
  try simp only[Ja]
  refine JR 9 14 (.bool db) rfl rfl hS5 (fun W hW=>by obtain ⟨q0,q1,q2⟩:=hW;have hdb:=HDB.out;go_simp;try rfl) ?_
  try simp only[Ja]
  refine J3 10 15 (.bool db) hS5 ?_
  try simp only[Ja]
  refine J3 11 4 (.bool db) hS5 ?_
  try simp only[Ja]
  refine Z3 (by kernel_rfl) ?_ _
  go_wp2_with fail
  go_ret
  exact ⟨rfl,HB.out.trans (b5.mono HB.out.size)⟩
 ·have hK:decide (0≤r∧r<8)=false:=decide_eq_false hr
  have hR:WZ [d0,d1,d2,d3,d4,d5,d6,d7] ⟨n,r⟩=false:=by unfold WZ;rw[decide_eq_false hr];rfl
  rw[hR]
  clear hR hr
  go_enter Tryz.func175,Tryz.ntmps175
  go_upto_region 1 with fail
  rw[HW.out]
  have hS0:(fun W:World=>W.cell? ⟨w.heap.size+1,0,none⟩=some (.int .i64 n)∧W.cell? ⟨w.heap.size+1,1,none⟩=some (.int .i64 r)∧True) W0.drew:=⟨hc0,hc1,trivial⟩
  clear hc0 hc1 HCD HW
  refine Z6 (fun W:World=>W.cell? ⟨w.heap.size+1,0,none⟩=some (.int .i64 n)∧W.cell? ⟨w.heap.size+1,1,none⟩=some (.int .i64 r)∧True) (fun _=>false) (by kernel_rfl) ?_
  generalize W0.drew=W1 at hS0 HB ⊢
  refine J3 0 5 (.agg #[.int .i64 n,.int .i64 r]) hS0 ?_
  try simp only[Ja]
  refine Zm (i:=1) (d:=some 6) (f:=195) (args:=#[.agg #[.int .i64 n,.int .i64 r]]) (w':=W1) (by kernel_rfl) rfl rfl (by rfl) (by go_simp;try rfl) ?_
  refine (Z23 n r W1).mono ?_
  rintro e w5 ⟨rfl,b5⟩
  rw[hK]
  have hS5:(fun W:World=>W.cell? ⟨w.heap.size+1,0,none⟩=some (.int .i64 n)∧W.cell? ⟨w.heap.size+1,1,none⟩=some (.int .i64 r)∧True) w5:=⟨Y9 b5 hS0.1,Y9 b5 hS0.2.1,trivial⟩
  refine ⟨_,rfl,fun _=>hS5,?_⟩
  try simp only[Ja]
  refine J3 2 7 _ hS5 ?_
  try simp only[Ja]
  refine JO 3 8 rfl rfl hS5 ?_
  try simp only[Ja]
  refine JO 4 9 rfl rfl hS5 ?_
  try simp only[Ja]
  refine JO 5 10 rfl rfl hS5 ?_
  try simp only[Ja]
  refine JO 6 11 rfl rfl hS5 ?_
  try simp only[Ja]
  refine JO 7 12 rfl rfl hS5 ?_
  try simp only[Ja]
  refine JO 8 13 rfl rfl hS5 ?_
  try simp only[Ja]
  refine JO 9 14 rfl rfl hS5 ?_
  try simp only[Ja]
  refine J3 10 15 (.bool false) hS5 ?_
  try simp only[Ja]
  refine J3 11 4 (.bool false) hS5 ?_
  try simp only[Ja]
  refine Z3 (by kernel_rfl) ?_ _
  go_wp2_with fail
  go_ret
  exact ⟨rfl,HB.out.trans (b5.mono HB.out.size)⟩
def Wx (ds:List Int):Int:=Lib.maxOf ds
theorem Z77 (d0 d1 d2 d3 d4 d5 d6 d7:Int) (w:World):Calls Tryz.prog 140 #[.agg #[.int .i64 d0,.int .i64 d1,.int .i64 d2,.int .i64 d3,.int .i64 d4,.int .i64 d5,.int .i64 d6,.int .i64 d7]] w fun e w'=>e=.returned (.int .i64 (Wx [d0,d1,d2,d3,d4,d5,d6,d7]))∧Below w.heap.size w w':=by
 obtain ⟨W0,hW0⟩:=Je (w.alloc (.cells #[.int .i64 d0,.int .i64 d1,.int .i64 d2,.int .i64 d3,.int .i64 d4,.int .i64 d5,.int .i64 d6,.int .i64 d7] 32))
 have HB:Hid (Below w.heap.size w W0):=Jh (by rw[←hW0];exact ((Below.refl _ _).alloc (Nat.le_refl _) _))
 have hcon:=Any.slices_Max_int Tryz.maxF w.heap.size 0 8 8 [d0,d1,d2,d3,d4,d5,d6,d7] W0 (by omega) (by simp) (by omega) (fun j hj=>by
  rw[←hW0,Nat.zero_add]
  refine Rb w [.int .i64 d0,.int .i64 d1,.int .i64 d2,.int .i64 d3,.int .i64 d4,.int .i64 d5,.int .i64 d6,.int .i64 d7] _ j _ ?_
  match j,hj with
  | 0,_=>rfl
  | 1,_=>rfl
  | 2,_=>rfl
  | 3,_=>rfl
  | 4,_=>rfl
  | 5,_=>rfl
  | 6,_=>rfl
  | 7,_=>rfl)
 have HC:=Jh (show Calls Tryz.prog 174 #[.slice (some ⟨w.heap.size,0,none⟩) 8 8] W0 fun e w'=>e=.returned (.int .i64 (Wx [d0,d1,d2,d3,d4,d5,d6,d7]))∧w'=W0 from hcon)
 have HW:=Lib.hid hW0
 clear hcon hW0
 go_enter Tryz.func140,Tryz.ntmps140
 go_wp2_with fail
 rw[HW.out]
 refine HC.out.mono ?_
 rintro e w5 ⟨rfl,e5⟩
 rw[e5]
 go_wp2_with fail
 go_ret
 exact ⟨rfl,HB.out⟩
end Go.Proofs.YtgmdimbiipemhaaGreatDoor
namespace Go.Proofs.YtgmdimbiipemhaaGreatDoor
open Go.RowKit Go.Deep Go.Shelf
def YG (s:ByteArray):Bool:=decide (1≤s.size∧s.size≤8) && s.data.toList.all fun c=>decide (97≤c.toNat∧c.toNat≤122)
def YB (s:ByteArray):Bool:=decide (s.size≤16) && s.data.toList.all fun c=>decide (32≤c.toNat∧c.toNat≤126)
def YS (s:ByteArray):Bool:=decide (1≤s.size∧s.size≤64) && (s.data.toList.all fun c=>decide (48≤c.toNat∧c.toNat≤57∨97≤c.toNat∧c.toNat≤122)) && decide (s.data.toList.getLast?≠some 48)
theorem Rm {α:Type} (p:α→Bool):∀ l:List α,l.dropWhile p=[]↔∀ x∈l,p x=true
 | []=>by simp
 | x :: l=>by
  rw[List.dropWhile_cons]
  split
  ·rename_i h
   rw[Rm p l]
   simp[h]
  ·rename_i h
   simp[h]
theorem Tf (l cs:List UInt8):Lib.trimS l cs=[]↔∀ c∈l,c∈cs:=by
 unfold Lib.trimS Lib.trimRightS Lib.trimLeftS
 constructor
 ·intro h c hc
  rw[Rm] at h
  by_cases hx:c∈(l.reverse.dropWhile (cs.contains ·)).reverse
  ·simpa using h c hx
  ·have h2:c∈l.reverse:=by simpa using hc
   rw[←List.takeWhile_append_dropWhile (p:=(cs.contains ·)) (l:=l.reverse)] at h2
   rcases List.mem_append.1 h2 with h2|h2
   ·have:=List.all_takeWhile (p:=(cs.contains ·)) (l:=l.reverse)
    simpa using List.all_eq_true.1 this c h2
   ·exact absurd (by simpa using h2) hx
 ·intro h
  have:l.reverse.dropWhile (cs.contains ·)=[]:=by
   rw[Rm]
   intro c hc
   simpa using h c (by simpa using hc)
  rw[this]
  rfl
def Vy:List UInt8:=[97,98,99,100,101,102,103,104,105,106,107,108,109,110,111,112,113,114,115,116,117,118,119,120,121,122]
def Ug:List UInt8:=[48,49,50,51,52,53,54,55,56,57,97,98,99,100,101,102,103,104,105,106,107,108,109,110,111,112,113,114,115,116,117,118,119,120,121,122]
theorem Qb (c:UInt8):c∈Vy↔97≤c.toNat∧c.toNat≤122:=by
 have key:∀ n:Fin 256,(UInt8.ofNat n.val)∈Vy↔97≤n.val∧n.val≤122:=by decide +kernel
 have:=key ⟨c.toNat,c.toNat_lt⟩
 simpa using this
theorem Z1g (c:UInt8):c∈Ug↔(48≤c.toNat∧c.toNat≤57∨97≤c.toNat∧c.toNat≤122):=by
 have key:∀ n:Fin 256,(UInt8.ofNat n.val)∈Ug↔(48≤n.val∧n.val≤57∨97≤n.val∧n.val≤122):=by decide +kernel
 have:=key ⟨c.toNat,c.toNat_lt⟩
 simpa using this
theorem WW (s:ByteArray):s.data.toList.length=s.size:=by simp
theorem Z31 (l:List UInt8):(⟨l.toArray⟩:ByteArray).toList.isEmpty=decide (l=[]):=by
 rw[ByteArray.toList_eq]
 cases l with
 | nil=>rfl
 | cons x l=>rw[decide_eq_false (by simp)];rfl
theorem Z4M {s:ByteArray} (h1:1≤s.size) (h2:s.size≤8):YG s=decide (Lib.trimS s.data.toList Vy=[]):=by
 unfold YG
 rw[decide_eq_true ⟨h1,h2⟩,Bool.true_and]
 by_cases ht:Lib.trimS s.data.toList Vy=[]
 ·rw[decide_eq_true ht]
  rw[Tf] at ht
  exact List.all_eq_true.2 fun c hc=>decide_eq_true ((Qb c).1 (ht c hc))
 ·rw[decide_eq_false ht]
  refine Bool.eq_false_iff.2 fun h=>ht ?_
  rw[Tf]
  exact fun c hc=>(Qb c).2 (of_decide_eq_true (List.all_eq_true.1 h c hc))
theorem Z5G {s:ByteArray} (h1:1≤s.size) (h2:s.size≤64):YS s=(decide (Lib.trimS s.data.toList Ug=[]) && !(Lib.hasSuffix s.data.toList [48])):=by
 have e2:(!(Lib.hasSuffix s.data.toList [48]))=decide (s.data.toList.getLast?≠some 48):=by
  unfold Lib.hasSuffix
  by_cases h:s.data.toList.getLast?=some 48
  ·rw[decide_eq_false (by simp[h])]
   have:[48] <:+ s.data.toList:=by
    obtain ⟨ys,hys⟩:=List.getLast?_eq_some_iff.1 h
    exact ⟨ys,hys.symm⟩
   simp[List.isSuffixOf_iff_suffix.2 this]
  ·rw[decide_eq_true h]
   have:¬ [48] <:+ s.data.toList:=fun ⟨ys,hys⟩=>h (by rw[←hys];simp)
   have h3:[48].isSuffixOf s.data.toList=false:=Bool.eq_false_iff.2 fun e=>this (List.isSuffixOf_iff_suffix.1 e)
   rw[h3];rfl
 unfold YS
 rw[decide_eq_true ⟨h1,h2⟩,Bool.true_and,e2]
 congr 1
 by_cases ht:Lib.trimS s.data.toList Ug=[]
 ·rw[decide_eq_true ht]
  rw[Tf] at ht
  exact List.all_eq_true.2 fun c hc=>decide_eq_true ((Z1g c).1 (ht c hc))
 ·rw[decide_eq_false ht]
  refine Bool.eq_false_iff.2 fun h=>ht ?_
  rw[Tf]
  exact fun c hc=>(Z1g c).2 (of_decide_eq_true (List.all_eq_true.1 h c hc))
theorem Z3o (s:ByteArray) (w:World) (hs:s.size≤9223372036854775807):Calls Tryz.prog 143 #[.string s] w fun e w'=>e=.returned (.bool (YG s))∧Below w.heap.size w w':=by
 by_cases h1:1≤s.size
 ·have h1':(1:Int)≤(s.size:Int):=by omega
  by_cases h2:s.size≤8
  ·have h2':(s.size:Int)≤8:=by omega
   have hcon:=Any.strings_Trim_laid Tryz.trimF (by kernel_rfl) s ⟨#[97,98,99,100,101,102,103,104,105,106,107,108,109,110,111,112,113,114,115,116,117,118,119,120,121,122]⟩ w hs (by decide) (ascii_of_all (by decide))
   change Calls Tryz.prog 176 _ _ (fun e w'=>e=.returned (.string ⟨(Lib.trimS s.data.toList Vy).toArray⟩)∧Below w.heap.size w w') at hcon
   have HC:=Lib.hid hcon
   have hb:=Z4M h1 h2
   have he:=Z31 (Lib.trimS s.data.toList Vy)
   rw[←hb] at he
   have HE:=Lib.hid he
   generalize (⟨(Lib.trimS s.data.toList Vy).toArray⟩:ByteArray)=r at HC HE
   clear hcon hb he h1 h2
   go_enter Tryz.func143,Tryz.ntmps143
   go_wp2_with fail
   refine HC.out.mono ?_
   rintro e w5 ⟨rfl,b5⟩
   have he:=HE.out
   go_wp2_with fail
   go_ret
   exact ⟨rfl,b5⟩
  ·have h2':¬ (s.size:Int)≤8:=by omega
   have HN:Hid (YG s=false):=Jh (by unfold YG;rw[decide_eq_false (fun h=>h2 h.2)];rfl)
   clear h1 h2
   go_enter Tryz.func143,Tryz.ntmps143
   go_wp2_with fail
   go_ret
   exact ⟨by rw[HN.out];rfl,Below.refl _ _⟩
 ·have h1':¬ (1:Int)≤(s.size:Int):=by omega
  have HN:Hid (YG s=false):=Jh (by unfold YG;rw[decide_eq_false (fun h=>h1 h.1)];rfl)
  clear h1
  go_enter Tryz.func143,Tryz.ntmps143
  go_wp2_with fail
  go_ret
  exact ⟨by rw[HN.out];rfl,Below.refl _ _⟩
theorem UH (s:ByteArray) (w:World) (hs:s.size≤9223372036854775807):Calls Tryz.prog 142 #[.string s] w fun e w'=>e=.returned (.bool (YS s))∧Below w.heap.size w w':=by
 by_cases h1:1≤s.size
 ·have h1':(1:Int)≤(s.size:Int):=by omega
  by_cases h2:s.size≤64
  ·have h2':(s.size:Int)≤64:=by omega
   have hcon:=Any.strings_Trim_laid Tryz.trimF (by kernel_rfl) s ⟨#[48,49,50,51,52,53,54,55,56,57,97,98,99,100,101,102,103,104,105,106,107,108,109,110,111,112,113,114,115,116,117,118,119,120,121,122]⟩ w hs (by decide) (ascii_of_all (by decide))
   change Calls Tryz.prog 176 _ _ (fun e w'=>e=.returned (.string ⟨(Lib.trimS s.data.toList Ug).toArray⟩)∧Below w.heap.size w w') at hcon
   have HC:=Lib.hid hcon
   have hsuf:=fun w'=>Any.strings_HasSuffix Tryz.sufF s ⟨#[48]⟩ w' hs
   change ∀ w',Calls Tryz.prog 177 _ _ (fun e w''=>e=.returned (.bool (Lib.hasSuffix s.data.toList [48]))∧w''=w') at hsuf
   have HS:=Lib.hid hsuf
   have HB:=Jh (Z5G h1 h2)
   have he:=Z31 (Lib.trimS s.data.toList Ug)
   obtain ⟨tb,htb⟩:∃ tb,tb=decide (Lib.trimS s.data.toList Ug=[]):=⟨_,rfl⟩
   rw[←htb] at HB he
   have HE:=Lib.hid he
   generalize (⟨(Lib.trimS s.data.toList Ug).toArray⟩:ByteArray)=r at HC HE
   generalize Lib.hasSuffix s.data.toList [48]=sb at HB HS
   clear hcon hsuf he h1 h2 htb
   go_enter Tryz.func142,Tryz.ntmps142
   go_wp2_with fail
   refine HC.out.mono ?_
   rintro e w5 ⟨rfl,b5⟩
   have he:=HE.out
   cases tb with
   | false =>
    go_wp2_with fail
    go_ret
    exact ⟨by rw[HB.out];rfl,b5⟩
   | true =>
    go_wp2_with fail
    refine (HS.out _).mono ?_
    rintro e w6 ⟨rfl,e6⟩
    rw[e6]
    clear e6 w6
    go_wp2_with fail
    go_ret
    exact ⟨by rw[HB.out];simp,b5⟩
  ·have h2':¬ (s.size:Int)≤64:=by omega
   have HN:Hid (YS s=false):=Jh (by unfold YS;rw[decide_eq_false (fun h=>h2 h.2)];rfl)
   clear h1 h2
   go_enter Tryz.func142,Tryz.ntmps142
   go_wp2_with fail
   go_ret
   exact ⟨by rw[HN.out];rfl,Below.refl _ _⟩
 ·have h1':¬ (1:Int)≤(s.size:Int):=by omega
  have HN:Hid (YS s=false):=Jh (by unfold YS;rw[decide_eq_false (fun h=>h1 h.1)];rfl)
  clear h1
  go_enter Tryz.func142,Tryz.ntmps142
  go_wp2_with fail
  go_ret
  exact ⟨by rw[HN.out];rfl,Below.refl _ _⟩
theorem Z87:Tryz.prog.underlying 5=some (.int .u8):=by kernel_rfl
theorem Z3C (s:ByteArray) (w:World):∃ W1 cap,(convert 9 22 (.string s)).run Tryz.prog w=.ok (.slice (some ⟨w.heap.size,0,none⟩) s.size cap) W1∧Below w.heap.size w W1∧∀ (j:Nat) c,s.data.toList[j]?=some c→W1.cell? ⟨w.heap.size,j,none⟩=some (.int .u8 c.toNat):=by
 refine ⟨_,_,Lib.run_convert_string_bytes w 9 22 5 s Tryz.underlying9 Tryz.underlying22 Z87,⟨rfl,rfl,rfl,by rw[Lib.bytesWorld_size];omega,fun k hk=>Lib.bytesWorld_at_old w _ s k hk⟩,fun j c hc=>?_⟩
 have hj:=(List.getElem?_eq_some_iff.1 hc).1
 rw[WW] at hj
 rw[Lib.bytesWorld_cell w _ s j hj,List.getD_eq_getElem?_getD,hc]
 rfl
theorem Z3B (s:ByteArray) (k:Nat) (c:UInt8) (hc:s.data.toList[k]?=some c):((s.data.toList.take (k+1)).all fun c=>decide (32≤c.toNat∧c.toNat≤126))=(((s.data.toList.take k).all fun c=>decide (32≤c.toNat∧c.toNat≤126)) && decide (32≤c.toNat∧c.toNat≤126)):=by
 rw[List.take_add_one,hc,Option.toList_some,List.all_append]
 simp
theorem QY {s:ByteArray} {k:Nat} {c:UInt8} (hc:s.data.toList[k]?=some c) (h:¬ (32≤c.toNat∧c.toNat≤126)):YB s=false:=by
 unfold YB
 have:(s.data.toList.all fun c=>decide (32≤c.toNat∧c.toNat≤126))=false:=Bool.eq_false_iff.2 fun e=>h (of_decide_eq_true (List.all_eq_true.1 e c (List.mem_of_getElem? hc)))
 rw[this,Bool.and_false]
theorem Z1H (s:ByteArray) (w:World) (hs:s.size≤9223372036854775807):Calls Tryz.prog 144 #[.string s] w fun e w'=>e=.returned (.bool (YB s))∧Below w.heap.size w w':=by
 obtain ⟨W1,cap,hcv,hb,hc⟩:=Z3C s w
 have HB:=Lib.hid hb
 have HC:=Lib.hid hc
 clear hb hc
 go_enter Tryz.func144,Tryz.ntmps144
 go_wp2_with fail
 clear hcv
 go_loopg [8] s.size (fun g kv wr=>∃ k:Nat,g=s.size - k∧kv=.int .i64 k∧k≤s.size∧wr=W1∧Hid (((s.data.toList.take k).all fun c=>decide (32≤c.toNat∧c.toNat≤126))=true))
 case atStart=>exact ⟨0,rfl,rfl,Nat.zero_le _,rfl,Jh (by rw[List.take_zero];rfl)⟩
 case round =>
  obtain ⟨k,hg,rfl,hk,rfl,HA⟩:=hrel
  have HG:=Lib.hid hg
  clear hg
  by_cases hlt:k<s.size
  ·have hk1:(k:Int)<(s.size:Int):=by omega
   obtain ⟨c,hc⟩:∃ c,s.data.toList[k]?=some c:=⟨_,List.getElem?_eq_getElem (by rw[WW];exact hlt)⟩
   have c0:=HC.out k c hc
   have hcl:=c.toNat_lt
   by_cases h1:c.toNat<32
   ·have h1':(c.toNat:Int)<32:=by omega
    have HN:=Jh (QY hc (by omega))
    clear hc h1
    go_wp2_with fail
    go_ret
    exact ⟨by rw[HN.out];rfl,HB.out⟩
   ·have h1':¬ (c.toNat:Int)<32:=by omega
    by_cases h2:126<c.toNat
    ·have h2':(126:Int)<(c.toNat:Int):=by omega
     have HN:=Jh (QY hc (by omega))
     clear hc h1 h2
     go_wp2_with fail
     go_ret
     exact ⟨by rw[HN.out];rfl,HB.out⟩
    ·have h2':¬ (126:Int)<(c.toNat:Int):=by omega
     have HN:Hid (((s.data.toList.take (k+1)).all fun c=>decide (32≤c.toNat∧c.toNat≤126))=true):=Jh (by rw[Z3B s k c hc,HA.out,Bool.true_and];exact decide_eq_true (by omega))
     clear hc h1 h2 HA
     go_wp2_with fail
     go_roundg (s.size - (k+1))
     case measure=>rw[HG.out];omega
     case rel=>exact ⟨k+1,rfl,by simp,by omega,rfl,HN⟩
  ·obtain rfl:k=s.size:=by omega
   have hk1:¬ (s.size:Int)<(s.size:Int):=by omega
   have HV:Hid (YB s=decide (s.size≤16)):=Jh (by unfold YB;have h:=HA.out;rw[List.take_of_length_le (by rw[WW];exact Nat.le_refl _)] at h;rw[h,Bool.and_true])
   clear hlt HA
   by_cases h16:s.size≤16
   ·have h16':(s.size:Int)≤16:=by omega
    go_wp2_with fail
    go_ret
    exact ⟨by rw[HV.out,decide_eq_true h16];try rfl,HB.out⟩
   ·have h16':¬ (s.size:Int)≤16:=by omega
    go_wp2_with fail
    go_ret
    exact ⟨by rw[HV.out,decide_eq_false h16];try rfl,HB.out⟩
end Go.Proofs.YtgmdimbiipemhaaGreatDoor
namespace Go.Proofs.YtgmdimbiipemhaaGreatDoor
def ZJ:ByteArray:=⟨#[]⟩
def OpD.bare (o:OpD):OpD:=⟨o.id,o.d0,o.d1,o.d2,o.d3,o.d4,o.d5,o.d6,o.d7,o.kind,⟨0,0⟩,0,0,⟨0,0⟩,ZJ,ZJ,ZJ,⟨0,0⟩,false,⟨0,0⟩,false⟩
def OpD.keepR (o:OpD):OpD:={ o.bare with ref:=o.ref }
def OpD.keepI (o:OpD):OpD:={ o.bare with ref:=o.ref,side:=o.side,ch:=o.ch }
def OpD.keepM (o:OpD):OpD:={ o.bare with ref:=o.ref,under:=o.under,key:=o.key }
def OpD.keepS (o:OpD):OpD:={ o.bare with ref:=o.ref,name:=o.name,value:=o.value }
def OpD.keepK (o:OpD):OpD:={ o.bare with name:=o.name,value:=o.value,fr:=o.fr,fa:=o.fa,tr:=o.tr,ta:=o.ta }
def OpD.okI (o:OpD):Bool:=(decide (o.side=2) && decide (o.ref=⟨0,0⟩) || o.may o.ref && (decide (o.side=1) || decide (o.side=2))) && (decide (o.ch=0) || decide (32≤o.ch) && decide (o.ch≤126))
def OpD.okM (o:OpD):Bool:=o.may o.ref && (decide (o.under=⟨0,0⟩) || o.may o.under) && !decide (o.under=o.ref) && YS o.key
def OpD.okS (o:OpD):Bool:=o.may o.ref && YG o.name && YB o.value
def OpD.okK (o:OpD):Bool:=o.may o.fr && o.may o.tr && YG o.name && YB o.value
def OpD.kindOk (o:OpD):Bool :=
 if o.kind=1 then o.okI && decide (o.keepI=o) else
 if o.kind=2 then o.may o.ref && decide (o.keepR=o) else
 if o.kind=3 then o.okM && decide (o.keepM=o) else
 if o.kind=4 then o.okS && decide (o.keepS=o) else
 if o.kind=5 then o.okK && decide (o.keepK=o) else false
def VW (ds:List Int):Int:=Lib.minOf ds
def OpD.right (o:OpD):Bool:=ZP o.id && (!decide (VW o.deps<0) && (!decide (o.id.n≤Wx o.deps) && o.kindOk))
theorem OpD.right_no1 {o:OpD} (h:ZP o.id=false):o.right=false:=by unfold OpD.right;rw[h];rfl
theorem OpD.right_no2 {o:OpD} (h:ZP o.id=true) (h2:VW o.deps<0):o.right=false:=by unfold OpD.right;rw[h,decide_eq_true h2];rfl
theorem OpD.right_no3 {o:OpD} (h:ZP o.id=true) (h2:¬ VW o.deps<0) (h3:o.id.n≤Wx o.deps):o.right=false:=by unfold OpD.right;rw[h,decide_eq_false h2,decide_eq_true h3];rfl
theorem OpD.right_yes {o:OpD} (h:ZP o.id=true) (h2:¬ VW o.deps<0) (h3:¬ o.id.n≤Wx o.deps):o.right=o.kindOk:=by unfold OpD.right;rw[h,decide_eq_false h2,decide_eq_false h3];rfl
end Go.Proofs.YtgmdimbiipemhaaGreatDoor
namespace Go.Proofs.YtgmdimbiipemhaaGreatDoor
open Go.RowKit
theorem UV (n:Int):wrap64 n=Yb n:=by unfold wrap64 Yb;rfl
theorem Yc (n:Int):IntKind.u64.wrap n=n % 18446744073709551616:=by
 unfold IntKind.wrap
 simp[IntKind.bits,IntKind.signed]
theorem Z4B (n:Nat) (h:n<256):bits .or .u8 (n:Int) 128=((n % 128+128:Nat):Int):=by
 have key:∀ m:Fin 256,bits .or .u8 ((m.val:Nat):Int) 128=((m.val % 128+128:Nat):Int):=by decide +kernel
 exact key ⟨n,h⟩
theorem TM (n:Nat) (h:n<256):bits .and .u8 (n:Int) 127=((n % 128:Nat):Int):=by
 have key:∀ m:Fin 256,bits .and .u8 ((m.val:Nat):Int) 127=((m.val % 128:Nat):Int):=by decide +kernel
 exact key ⟨n,h⟩
theorem YJ (k n:Nat):BitVec.ofInt k (n:Int)=BitVec.ofNat k n:=by
 apply BitVec.eq_of_toInt_eq
 simp[BitVec.toInt_ofInt,BitVec.toInt_ofNat]
theorem SL (op:BinOp) (a b c:Nat) (ha:a<18446744073709551616) (hb:b<18446744073709551616) (hc:c<18446744073709551616)
  (h:(match op with|.and=>a &&& b|.or=>a ||| b|.xor=>a ^^^ b|_=>c)=c) (ho:op=.and∨op=.or∨op=.xor):bits op .u64 (a:Int) (b:Int)=(c:Int):=by
 unfold bits
 dsimp only
 rw[Yc]
 have e64:IntKind.u64.bits=64:=rfl
 rcases ho with rfl|rfl|rfl
 ·simp only at h ⊢
  rw[YJ,YJ,e64,BitVec.toNat_and,BitVec.toNat_ofNat,BitVec.toNat_ofNat,Nat.mod_eq_of_lt (by omega),Nat.mod_eq_of_lt (by omega),h]
  omega
 ·simp only at h ⊢
  rw[YJ,YJ,e64,BitVec.toNat_or,BitVec.toNat_ofNat,BitVec.toNat_ofNat,Nat.mod_eq_of_lt (by omega),Nat.mod_eq_of_lt (by omega),h]
  omega
 ·simp only at h ⊢
  rw[YJ,YJ,e64,BitVec.toNat_xor,BitVec.toNat_ofNat,BitVec.toNat_ofNat,Nat.mod_eq_of_lt (by omega),Nat.mod_eq_of_lt (by omega),h]
  omega
theorem Z2B (n:Nat) (h:n<18446744073709551616):bits .and .u64 (n:Int) 1=((n % 2:Nat):Int) :=
 SL .and n 1 (n % 2) h (by omega) (by omega) (Nat.and_one_is_mod n) (.inl rfl)
theorem Z2f (a x i:Nat) (ha:a<2 ^ i) (h:a+x*2 ^ i<18446744073709551616):bits .or .u64 (a:Int) ((x*2 ^ i:Nat):Int)=((a+x*2 ^ i:Nat):Int):=by
 refine SL .or a (x*2 ^ i) _ (by omega) (by omega) h ?_ (.inr (.inl rfl))
 show a ||| x*2 ^ i=_
 rw[Nat.or_comm,Nat.mul_comm x,←Nat.two_pow_add_eq_or_of_lt ha,Nat.add_comm]
theorem Z3j (a:Nat) (h:a<18446744073709551616):a ^^^ 18446744073709551615=18446744073709551615 - a:=by
 have:=congrArg BitVec.toNat (BitVec.xor_allOnes (x:=BitVec.ofNat 64 a))
 rw[BitVec.toNat_xor,BitVec.toNat_not,BitVec.toNat_ofNat,BitVec.toNat_allOnes,Nat.mod_eq_of_lt (by omega)] at this
 simpa using this
theorem Z71 {n:Int} (h1:-9223372036854775808≤n) (h2:n≤9223372036854775807):bits .xor .u64 (IntKind.u64.wrap (IntKind.u64.wrap n*2)) (IntKind.u64.wrap (n / 9223372036854775808))=(Yf n:Int):=by
 rw[Yc,Yc,Yc]
 by_cases h:0≤n
 ·have e1:n % 18446744073709551616*2 % 18446744073709551616=((2*n).toNat:Int):=by omega
  have e2:n / 9223372036854775808 % 18446744073709551616=((0:Nat):Int):=by omega
  rw[e1,e2]
  unfold Yf
  rw[if_pos h]
  exact SL .xor _ 0 _ (by omega) (by omega) (by omega) (Nat.xor_zero _) (.inr (.inr rfl))
 ·have e1:n % 18446744073709551616*2 % 18446744073709551616=((18446744073709551616+2*n).toNat:Int):=by omega
  have e2:n / 9223372036854775808 % 18446744073709551616=((18446744073709551615:Nat):Int):=by omega
  rw[e1,e2]
  unfold Yf
  rw[if_neg h]
  refine SL .xor _ 18446744073709551615 _ (by omega) (by omega) (by omega) ?_ (.inr (.inr rfl))
  show _ ^^^ _=_
  rw[Z3j _ (by omega)]
  omega
theorem U4 (n:Int):IntKind.i64.wrap n=Yb n:=by
 rw[←UV];exact IntWalk.i64_left n
theorem Z74 {n:Nat} (h:n<18446744073709551616):bits .xor .i64 ((n:Int) / 2) (wrap64 (-wrap64 (bits .and .u64 (n:Int) 1)))=YL n:=by
 rw[Z2B n h,UV,UV]
 unfold bits
 dsimp only
 rw[U4]
 have e64:IntKind.i64.bits=64:=rfl
 have e0:((n:Int) / 2)=((n / 2:Nat):Int):=by omega
 by_cases hp:n % 2=0
 ·have e1:Yb (-Yb ((n % 2:Nat):Int))=((0:Nat):Int):=by rw[hp];decide
  rw[e1,e0,YJ,YJ,e64,BitVec.toNat_xor,BitVec.toNat_ofNat,BitVec.toNat_ofNat,Nat.mod_eq_of_lt (show n / 2<2 ^ 64 by omega),Nat.zero_mod,Nat.xor_zero]
  unfold YL Yb
  rw[if_pos hp]
  omega
 ·have e1:Yb (-Yb ((n % 2:Nat):Int))=-1:=by rw[show n % 2=1 by omega];decide
  have e2:(BitVec.ofInt 64 (-1)).toNat=18446744073709551615:=by decide
  rw[e1,e0,YJ,e64,BitVec.toNat_xor,BitVec.toNat_ofNat,e2,Nat.mod_eq_of_lt (show n / 2<2 ^ 64 by omega),Z3j _ (by omega)]
  unfold YL Yb
  rw[if_neg hp]
  omega
theorem Z7G (n:Int) (w:World) (h1:-9223372036854775808≤n) (h2:n≤9223372036854775807):Calls Tryz.prog 148 #[.int .i64 n] w fun e w'=>e=.returned (.int .u64 (Yf n))∧w=w':=by
 have hz:=Z71 h1 h2
 have HZ:=Lib.hid hz
 clear hz
 go_enter Tryz.func148,Tryz.ntmps148
 go_wp2
 go_ret
 exact ⟨congrArg (fun x=>Ending.returned (.int .u64 x)) HZ.out,rfl⟩
theorem Z18 (n:Nat) (w:World) (h:n<18446744073709551616):Calls Tryz.prog 180 #[.int .u64 n] w fun e w'=>e=.returned (.int .i64 (YL n))∧w=w':=by
 have HZ:=Lib.hid (Z74 h)
 go_enter Tryz.func180,Tryz.ntmps180
 go_wp2
 go_ret
 exact ⟨congrArg (fun x=>Ending.returned (.int .i64 x)) HZ.out,rfl⟩
theorem Z2r (n:Int) (w:World) (h1:-9223372036854775808≤n) (h2:n≤9223372036854775807):Calls Tryz.prog 157 #[.int .i64 n] w fun e w'=>e=.returned (.int .u64 (Yf n))∧w=w':=by
 by_cases h:0≤n
 ·have hz:Yf n=(2*n).toNat:=by unfold Yf;rw[if_pos h]
  have HZ:=Lib.hid hz
  clear hz
  go_enter Tryz.func157,Tryz.ntmps157
  go_wp2
  go_ret
  refine ⟨congrArg (fun x=>Ending.returned (.int .u64 x)) ?_,rfl⟩
  rw[HZ.out]
  first|omega|(simp only[Yc];omega)
 ·have hz:Yf n=(-2*n - 1).toNat:=by unfold Yf;rw[if_neg h]
  have HZ:=Lib.hid hz
  clear hz
  go_enter Tryz.func157,Tryz.ntmps157
  go_wp2
  go_ret
  refine ⟨congrArg (fun x=>Ending.returned (.int .u64 x)) ?_,rfl⟩
  rw[HZ.out]
  first|omega|(simp only[Yc];omega)
theorem Z6s (n:Nat) (w:World) (h:n<18446744073709551616):Calls Tryz.prog 107 #[.int .u64 n] w fun e w'=>e=.returned (.int .i64 (YL n))∧w=w':=by
 by_cases hp:n % 2=0
 ·have hz:YL n=((n / 2:Nat):Int):=by unfold YL;rw[if_pos hp]
  have HZ:=Lib.hid hz
  have hp':(n:Int) % 2=0:=by omega
  clear hz hp
  go_enter Tryz.func107,Tryz.ntmps107
  go_wp2
  go_ret
  refine ⟨congrArg (fun x=>Ending.returned (.int .i64 x)) ?_,rfl⟩
  rw[HZ.out]
  omega
 ·have hz:YL n=-((n / 2:Nat):Int) - 1:=by unfold YL;rw[if_neg hp]
  have HZ:=Lib.hid hz
  have hp':¬ (n:Int) % 2=0:=by omega
  clear hz hp
  go_enter Tryz.func107,Tryz.ntmps107
  go_wp2
  go_ret
  refine ⟨congrArg (fun x=>Ending.returned (.int .i64 x)) ?_,rfl⟩
  rw[HZ.out]
  omega
end Go.Proofs.YtgmdimbiipemhaaGreatDoor
namespace Go.Proofs.YtgmdimbiipemhaaGreatDoor
open Go.RowKit Go.Deep Go.Shelf
theorem ZB (w:World) (o:Obj):(w.alloc o).heap[w.heap.size]?=some o:=by
 show (w.heap.push o)[w.heap.size]?=_
 simp
theorem Z1y {P:Program} {o:Oper} {a:Act} {w w':World} {s x:Operand} {t tn:TypeId} {v vx v':Value} (hop:o.op=.call { callee:=.builtin .copy,args:=#[s,x],argTypes:=#[t,tn] }) (hs:a.eval s=v) (hx:a.eval x=vx)
  (hr:(Builtin.copy_ #[t,tn] o.type #[v,vx]).run P w=.ok v' w'):(execOp a.eval o).run P w=.ok (.value v') w':=by
 unfold execOp
 simp only[hop,resolve,invoke,builtin,Sem.run_bind,Sem.run_pure,Result.andThen_ok,List.map_toArray,List.map_cons,List.map_nil,hs,hx,hr]
def ZU (u z:Value) (k j:Nat):List Value:=List.replicate j u++List.replicate (k - j) z
theorem Z3d {u z:Value} {k j:Nat} (h:j≤k):(ZU u z k j).length=k:=by simp[ZU];omega
theorem Th {u z:Value} {k j m:Nat} (hj:j+m≤k):(ZU u z k j).take j++List.replicate m u++(ZU u z k j).drop (j+m)=ZU u z k (j+m):=by
 unfold ZU
 rw[List.take_left' (by simp),List.drop_append,List.drop_eq_nil_of_le (by simp),List.nil_append,List.length_replicate,List.drop_replicate,show k - j - (j+m - j)=k - (j+m) by omega,List.replicate_append_replicate]
theorem Z6W {u z:Value} {k:Nat}:ZU u z k k=List.replicate k u:=by simp[ZU]
theorem Z1O {u z:Value} {k j i:Nat} {W:World} {g:Nat} {E:TypeId} (hg:W.heap[g]?=some (.cells (ZU u z k j).toArray E (0,0))) (hi:i<j):W.cell? ⟨g,i,none⟩=some u:=by
 unfold World.cell?
 rw[hg]
 simp[ZU,List.getElem?_append_left (show i<(List.replicate j u).length by simpa using hi),hi]
theorem Si (z:Value) (h:z.cells=#[z]) (k:Nat):madeCells z.cells (k*1)=(ZU z z k 0).toArray:=by
 unfold ZU
 rw[h]
 apply Array.ext_getElem?
 intro i
 simp[madeCells]
 try grind
theorem Own.of_row {α:Type} {ea:α→List Value} {e:TypeId} {base g:Nat} {w:World} {l:List α} {cs:List Value} (h1:∀ x,∃ u,ea x=[u]) (hg:w.heap[g]?=some (.cells cs.toArray e (0,0))) (hb:base≤g) (hcs:cs=l.flatMap ea) (hl:l.length≤maxLen) :
  Own ea 1 e base w (.slice (some ⟨g,0,none⟩) l.length l.length) l:=by
 have hlen:∀ l:List α,(l.flatMap ea).length=l.length:=by
  intro l
  induction l with
  | nil=>rfl
  | cons x l ih=>obtain ⟨u,hu⟩:=h1 x;rw[List.flatMap_cons,List.length_append,ih,hu];simp;omega
 subst hcs
 refine ⟨by rw[hlen,Nat.mul_one],.inr ⟨g,l.length,_,rfl,hb,hg,Nat.le_refl _,hl,by simp[hlen],?_⟩⟩
 rw[List.take_of_length_le (by simp[hlen])]
theorem RE {α:Type} {ea:α→List Value} {e:TypeId} {g k:Nat} {w:World} {x:α} {u z:Value} (h1:∀ x,∃ u,ea x=[u]) (hx:ea x=[u]) (hg:w.heap[g]?=some (.cells (ZU u z k k).toArray e (0,0))) (hk:k≤65536) :
  Own ea 1 e g w (.slice (some ⟨g,0,none⟩) k k) (List.replicate k x):=by
 have h:=Own.of_row (ea:=ea) (l:=List.replicate k x) (cs:=ZU u z k k) (base:=g) h1 hg (Nat.le_refl _) (by
  rw[Z6W]
  clear hg hk
  induction k with
  | zero=>rfl
  | succ k ih=>rw[List.replicate_succ,List.replicate_succ,List.flatMap_cons,hx,←ih];rfl) (by rw[List.length_replicate];unfold maxLen;omega)
 rw[List.length_replicate] at h
 exact h
theorem Z4y (x:Int) (b c k:Nat) (w:World) (hb:w.cell? ⟨b,0,none⟩=some (.int .i64 x)) (hk:k≤65536) (hc:1≤c):Calls Tryz.prog 181 #[.slice (some ⟨b,0,none⟩) 1 c,.int .i64 k] w fun e w'=>∃ v,e=.returned v∧Own Zh 1 3 w.heap.size w' v (List.replicate k x)∧Below w.heap.size w w':=by
 have hmul:=Any.bits_Mul Tryz.mulF 1 k (by omega) (by omega) w
 have hmul2:Calls Tryz.prog 204 #[.int .u64 1,.int .u64 k] w fun e w'=>e=.returned (.tuple #[.int .u64 0,.int .u64 k])∧w'=w:=by
  have e1:1*k / 18446744073709551616=0:=by omega
  have e2:1*k % 18446744073709551616=k:=by omega
  rw[e1,e2] at hmul
  exact hmul
 have HM:=Lib.hid hmul2
 clear hmul hmul2
 obtain ⟨i0,hi,hy0,hy1,hy2⟩:=info_parts Wa
 have hmk:=run_makeSlice (P:=Tryz.prog) w 100 3 i0 (Value.int .i64 0) Tryz.underlying100 hi hy0 .i64 .i64 (k:Int) (k:Int) (by omega) (by omega) (by rw[hy1];omega) (by rw[hy2];omega) (by omega)
 rw[hy1,Int.toNat_natCast,Si (Value.int .i64 0) rfl] at hmk
 obtain ⟨g,hg⟩:=Je (w.heap.size)
 rw[hg] at hmk
 obtain ⟨Z,hZ⟩:∃ Z:World,w.alloc (.cells (ZU (Value.int .i64 0) (Value.int .i64 0) k 0).toArray 3)=Z:=⟨_,rfl⟩
 have hz:Z.heap[g]?=some (.cells (ZU (Value.int .i64 x) (Value.int .i64 0) k 0).toArray 3 (0,0)):=by rw[←hZ,←hg];exact ZB w _
 have HB0:Hid (Below g w Z):=Jh (by rw[←hZ,←hg];exact (Below.refl _ _).alloc (Nat.le_refl _) _)
 rw[hZ] at hmk
 have hbZ:Z.cell? ⟨b,0,none⟩=some (Value.int .i64 x):=Y9 (by rw[hg];exact HB0.out) hb
 have hsz:(Tryz.prog.info? 3).map (·.size)=some 1:=by rw[hi];simp[hy1]
 have h64:IntKind.u64.wrap (k:Int)=(k:Int):=by rw[Yc];omega
 go_enter Tryz.func181,Tryz.ntmps181
 go_wp2_with fail
 refine HM.out.mono ?_
 rintro e w5 ⟨rfl,e5⟩
 rw[e5]
 clear e5 w5
 by_cases hk0:k=0
 ·have hcp:=run_copy_none (P:=Tryz.prog) Z 100 100 3 3 (some ⟨g,0,none⟩) (some ⟨b,0,none⟩) k k 1 c Tryz.underlying100 hsz (by rw[hk0];rfl)
  have HK0:=Lib.hid hk0
  clear hk0
  go_wp2_with fail
  go_loopg [8] 0 (fun gk nv wr=>gk=0∧nv=.int .i64 0∧wr=Z)
  case atStart=>exact ⟨rfl,rfl,rfl⟩
  case round =>
   obtain ⟨rfl,rfl,rfl⟩:=hrel
   have hk1:¬ (0:Int)<(k:Int):=by have:=HK0.out;omega
   have HO:Hid (Own Zh 1 3 g wr (.slice (some ⟨g,0,none⟩) k k) (List.replicate k x)):=Jh (RE (u:=(Value.int .i64 x)) (z:=(Value.int .i64 0)) (fun x=>⟨_,rfl⟩) rfl (by rw[HK0.out] at hz ⊢;exact hz) hk)
   clear hz hcp hmk hbZ hk
   go_wp2_with fail
   go_ret
   try rw[hg]
   exact ⟨_,rfl,HO.out,HB0.out⟩
 ·have hcp:=run_copy_row (P:=Tryz.prog) Z 100 100 3 3 g 0 k k ⟨b,0,none⟩ 1 c (ZU (Value.int .i64 x) (Value.int .i64 0) k 0).toArray 3 [(Value.int .i64 x)] Tryz.underlying100 hsz hz (by simp[Nat.min_def];omega) (fun j v hj=>by cases j with|zero=>cases hj;exact hbZ|succ j=>simp at hj) (by simp[ZU];omega) (fun v hv=>by rw[List.mem_singleton.1 hv];rfl)
  have hr1:(ZU (Value.int .i64 x) (Value.int .i64 0) k 0).toArray.toList.take 0++[(Value.int .i64 x)]++(ZU (Value.int .i64 x) (Value.int .i64 0) k 0).toArray.toList.drop (0+[(Value.int .i64 x)].length)=ZU (Value.int .i64 x) (Value.int .i64 0) k 1:=Th (m:=1) (by omega)
  rw[hr1] at hcp
  obtain ⟨Z1,hZ1⟩:=Je (Z.setRow g (ZU (Value.int .i64 x) (Value.int .i64 0) k 1).toArray)
  rw[hZ1] at hcp
  have HZ1:Hid (Z1.heap[g]?=some (.cells (ZU (Value.int .i64 x) (Value.int .i64 0) k 1).toArray 3 (0,0))∧Below g w Z1):=Lib.hid ⟨by rw[←hZ1];exact setRow_heap Z g _ _ _ _ hz,by rw[←hZ1];exact below_setRow HB0.out (Nat.le_refl _) _⟩
  clear hr1 hZ1 hz hbZ hZ
  go_wp2_with fail
  clear hcp hmk
  go_loopg [8] (k - 1) (fun gk nv wr=>∃ j:Nat,gk=k - j∧nv=.int .i64 j∧1≤j∧j≤k∧Hid (wr.heap[g]?=some (.cells (ZU (Value.int .i64 x) (Value.int .i64 0) k j).toArray 3 (0,0))∧Below g w wr))
  case atStart=>exact ⟨1,rfl,rfl,Nat.le_refl _,by omega,HZ1⟩
  case round =>
   clear HZ1
   obtain ⟨j,hgk,rfl,hj1,hjk,HR⟩:=hrel
   have HGK:=Lib.hid hgk
   clear hgk
   by_cases hlt:j<k
   ·have hl1:(j:Int)<(k:Int):=by omega
    go_upto_region 9 with fail
    have HR1:Hid (wr.drew.heap[g]?=some (.cells (ZU (Value.int .i64 x) (Value.int .i64 0) k j).toArray 3 (0,0))∧Below g w wr.drew):=Lib.hid ⟨HR.out.1,HR.out.2.drew⟩
    clear HR
    have hS0:(fun _:World=>True) wr.drew:=trivial
    refine Z6 (fun _=>True) (fun _=>false) (by kernel_rfl) ?_
    generalize wr.drew=W1 at HR1 ⊢
    have hn1:((k:Int) - (j:Int)).toNat=k - j:=by omega
    have hn2:¬ (k:Int)<(j:Int):=by omega
    have hn3:(j:Int)≤(k:Int):=by omega
    have hne:¬ k=j:=by omega
    refine J0 0 38 _ hS0 ?_
    try simp only[Ja]
    refine J0 1 39 _ hS0 ?_
    try simp only[Ja]
    refine J0 2 40 _ hS0 ?_
    try simp only[Ja]
    refine J0 3 41 (.slice (some ⟨g,j,none⟩) (k - j) (k - j)) hS0 ?_
    try simp only[Ja]
    refine J0 4 42 _ hS0 ?_
    try simp only[Ja]
    refine J0 5 43 _ hS0 ?_
    try simp only[Ja]
    refine J0 6 44 (.slice (some ⟨g,0,none⟩) j k) hS0 ?_
    try simp only[Ja]
    obtain ⟨m,hm,hmj,hmle⟩:∃ m,m=Nat.min j (k - j)∧m≤j∧(j+m≤k∧1≤m):=⟨_,rfl,Nat.min_le_left _ _,by simp only[Nat.min_def];split <;> omega⟩
    have hcp:=run_copy_row (P:=Tryz.prog) W1 100 100 3 3 g j (k - j) (k - j) ⟨g,0,none⟩ j k (ZU (Value.int .i64 x) (Value.int .i64 0) k j).toArray 3 (List.replicate m (Value.int .i64 x)) Tryz.underlying100 hsz HR1.out.1 (by rw[List.length_replicate];exact hm) (fun i v hi=>by
     have hi2:=(List.getElem?_eq_some_iff.1 hi).1
     rw[List.length_replicate] at hi2
     rw[List.getElem?_replicate,if_pos hi2] at hi
     cases hi
     have hij:i<j:=by omega
     have h:=Z1O HR1.out.1 hij
     rw[show (Addr.add ⟨g,0,none⟩ i)=⟨g,i,none⟩ from by unfold Addr.add;split <;> simp_all]
     exact h) (by rw[List.length_replicate];have:=Z3d (u:=(Value.int .i64 x)) (z:=(Value.int .i64 0)) hjk;simp only[List.size_toArray];omega) (fun v hv=>by rw[(List.mem_replicate.1 hv).2];rfl)
    have hr1:(ZU (Value.int .i64 x) (Value.int .i64 0) k j).toArray.toList.take j++List.replicate m (Value.int .i64 x)++(ZU (Value.int .i64 x) (Value.int .i64 0) k j).toArray.toList.drop (j+(List.replicate m (Value.int .i64 x)).length)=ZU (Value.int .i64 x) (Value.int .i64 0) k (j+m):=by rw[List.length_replicate];exact Th hmle.1
    rw[hr1,List.length_replicate] at hcp
    clear hm
    have HR2:Hid ((W1.setRow g (ZU (Value.int .i64 x) (Value.int .i64 0) k (j+m)).toArray).heap[g]?=some (.cells (ZU (Value.int .i64 x) (Value.int .i64 0) k (j+m)).toArray 3 (0,0))∧Below g w (W1.setRow g (ZU (Value.int .i64 x) (Value.int .i64 0) k (j+m)).toArray)):=Lib.hid ⟨setRow_heap W1 g _ _ _ _ HR1.out.1,below_setRow HR1.out.2 (Nat.le_refl _) _⟩
    generalize W1.setRow g (ZU (Value.int .i64 x) (Value.int .i64 0) k (j+m)).toArray=W2 at hcp HR2
    refine Zk (i:=7) (d:=some 45) (v:=.int .i64 m) (w':=W2) (by kernel_rfl) rfl rfl (by rfl) (Z1y rfl rfl rfl hcp) (fun _=>trivial) ?_
    try simp only[Ja]
    have hadd:IntKind.i64.wrap ((j:Int)+(m:Int))=((j+m:Nat):Int):=by rw[IntWalk.i64_in _ (by omega)];omega
    refine Zk (i:=8) (d:=some 46) (v:=.int .i64 ((j+m:Nat):Int)) (w':=W2) (by kernel_rfl) rfl rfl (by rfl) (by go_simp;try rfl) (fun _=>trivial) ?_
    try simp only[Ja]
    refine Zk (i:=9) (d:=some 8) (v:=.int .i64 ((j+m:Nat):Int)) (w':=W2) (by kernel_rfl) rfl rfl (by rfl) (by go_simp;try rfl) (fun _=>trivial) ?_
    try simp only[Ja]
    refine Z3 (by kernel_rfl) ?_ _
    clear hS0 hcp hr1 HR1
    go_wp2_with fail
    go_roundg (k - (j+m))
    case measure=>rw[HGK.out];omega
    case rel=>exact ⟨j+m,rfl,rfl,by omega,by omega,HR2⟩
   ·obtain rfl:j=k:=by omega
    have hl1:¬ (j:Int)<(j:Int):=by omega
    have HO:Hid (Own Zh 1 3 g wr (.slice (some ⟨g,0,none⟩) j j) (List.replicate j x)):=Jh (RE (u:=(Value.int .i64 x)) (z:=(Value.int .i64 0)) (fun x=>⟨_,rfl⟩) rfl HR.out.1 hk)
    clear hlt hk
    go_wp2_with fail
    go_ret
    try rw[hg]
    exact ⟨_,rfl,HO.out,HR.out.2⟩
theorem Z5E (x:Bool) (b c k:Nat) (w:World) (hb:w.cell? ⟨b,0,none⟩=some (.bool x)) (hk:k≤65536) (hc:1≤c):Calls Tryz.prog 182 #[.slice (some ⟨b,0,none⟩) 1 c,.int .i64 k] w fun e w'=>∃ v,e=.returned v∧Own btc 1 4 w.heap.size w' v (List.replicate k x)∧Below w.heap.size w w':=by
 have hmul:=Any.bits_Mul Tryz.mulF 1 k (by omega) (by omega) w
 have hmul2:Calls Tryz.prog 204 #[.int .u64 1,.int .u64 k] w fun e w'=>e=.returned (.tuple #[.int .u64 0,.int .u64 k])∧w'=w:=by
  have e1:1*k / 18446744073709551616=0:=by omega
  have e2:1*k % 18446744073709551616=k:=by omega
  rw[e1,e2] at hmul
  exact hmul
 have HM:=Lib.hid hmul2
 clear hmul hmul2
 obtain ⟨i0,hi,hy0,hy1,hy2⟩:=info_parts UF
 have hmk:=run_makeSlice (P:=Tryz.prog) w 75 4 i0 (Value.bool false) Tryz.underlying75 hi hy0 .i64 .i64 (k:Int) (k:Int) (by omega) (by omega) (by rw[hy1];omega) (by rw[hy2];omega) (by omega)
 rw[hy1,Int.toNat_natCast,Si (Value.bool false) rfl] at hmk
 obtain ⟨g,hg⟩:=Je (w.heap.size)
 rw[hg] at hmk
 obtain ⟨Z,hZ⟩:∃ Z:World,w.alloc (.cells (ZU (Value.bool false) (Value.bool false) k 0).toArray 4)=Z:=⟨_,rfl⟩
 have hz:Z.heap[g]?=some (.cells (ZU (Value.bool x) (Value.bool false) k 0).toArray 4 (0,0)):=by rw[←hZ,←hg];exact ZB w _
 have HB0:Hid (Below g w Z):=Jh (by rw[←hZ,←hg];exact (Below.refl _ _).alloc (Nat.le_refl _) _)
 rw[hZ] at hmk
 have hbZ:Z.cell? ⟨b,0,none⟩=some (Value.bool x):=Y9 (by rw[hg];exact HB0.out) hb
 have hsz:(Tryz.prog.info? 4).map (·.size)=some 1:=by rw[hi];simp[hy1]
 have h64:IntKind.u64.wrap (k:Int)=(k:Int):=by rw[Yc];omega
 go_enter Tryz.func182,Tryz.ntmps182
 go_wp2_with fail
 refine HM.out.mono ?_
 rintro e w5 ⟨rfl,e5⟩
 rw[e5]
 clear e5 w5
 by_cases hk0:k=0
 ·have hcp:=run_copy_none (P:=Tryz.prog) Z 75 75 3 4 (some ⟨g,0,none⟩) (some ⟨b,0,none⟩) k k 1 c Tryz.underlying75 hsz (by rw[hk0];rfl)
  have HK0:=Lib.hid hk0
  clear hk0
  go_wp2_with fail
  go_loopg [8] 0 (fun gk nv wr=>gk=0∧nv=.int .i64 0∧wr=Z)
  case atStart=>exact ⟨rfl,rfl,rfl⟩
  case round =>
   obtain ⟨rfl,rfl,rfl⟩:=hrel
   have hk1:¬ (0:Int)<(k:Int):=by have:=HK0.out;omega
   have HO:Hid (Own btc 1 4 g wr (.slice (some ⟨g,0,none⟩) k k) (List.replicate k x)):=Jh (RE (u:=(Value.bool x)) (z:=(Value.bool false)) (fun x=>⟨_,rfl⟩) rfl (by rw[HK0.out] at hz ⊢;exact hz) hk)
   clear hz hcp hmk hbZ hk
   go_wp2_with fail
   go_ret
   try rw[hg]
   exact ⟨_,rfl,HO.out,HB0.out⟩
 ·have hcp:=run_copy_row (P:=Tryz.prog) Z 75 75 3 4 g 0 k k ⟨b,0,none⟩ 1 c (ZU (Value.bool x) (Value.bool false) k 0).toArray 4 [(Value.bool x)] Tryz.underlying75 hsz hz (by simp[Nat.min_def];omega) (fun j v hj=>by cases j with|zero=>cases hj;exact hbZ|succ j=>simp at hj) (by simp[ZU];omega) (fun v hv=>by rw[List.mem_singleton.1 hv];rfl)
  have hr1:(ZU (Value.bool x) (Value.bool false) k 0).toArray.toList.take 0++[(Value.bool x)]++(ZU (Value.bool x) (Value.bool false) k 0).toArray.toList.drop (0+[(Value.bool x)].length)=ZU (Value.bool x) (Value.bool false) k 1:=Th (m:=1) (by omega)
  rw[hr1] at hcp
  obtain ⟨Z1,hZ1⟩:=Je (Z.setRow g (ZU (Value.bool x) (Value.bool false) k 1).toArray)
  rw[hZ1] at hcp
  have HZ1:Hid (Z1.heap[g]?=some (.cells (ZU (Value.bool x) (Value.bool false) k 1).toArray 4 (0,0))∧Below g w Z1):=Lib.hid ⟨by rw[←hZ1];exact setRow_heap Z g _ _ _ _ hz,by rw[←hZ1];exact below_setRow HB0.out (Nat.le_refl _) _⟩
  clear hr1 hZ1 hz hbZ hZ
  go_wp2_with fail
  clear hcp hmk
  go_loopg [8] (k - 1) (fun gk nv wr=>∃ j:Nat,gk=k - j∧nv=.int .i64 j∧1≤j∧j≤k∧Hid (wr.heap[g]?=some (.cells (ZU (Value.bool x) (Value.bool false) k j).toArray 4 (0,0))∧Below g w wr))
  case atStart=>exact ⟨1,rfl,rfl,Nat.le_refl _,by omega,HZ1⟩
  case round =>
   clear HZ1
   obtain ⟨j,hgk,rfl,hj1,hjk,HR⟩:=hrel
   have HGK:=Lib.hid hgk
   clear hgk
   by_cases hlt:j<k
   ·have hl1:(j:Int)<(k:Int):=by omega
    go_upto_region 9 with fail
    have HR1:Hid (wr.drew.heap[g]?=some (.cells (ZU (Value.bool x) (Value.bool false) k j).toArray 4 (0,0))∧Below g w wr.drew):=Lib.hid ⟨HR.out.1,HR.out.2.drew⟩
    clear HR
    have hS0:(fun _:World=>True) wr.drew:=trivial
    refine Z6 (fun _=>True) (fun _=>false) (by kernel_rfl) ?_
    generalize wr.drew=W1 at HR1 ⊢
    have hn1:((k:Int) - (j:Int)).toNat=k - j:=by omega
    have hn2:¬ (k:Int)<(j:Int):=by omega
    have hn3:(j:Int)≤(k:Int):=by omega
    have hne:¬ k=j:=by omega
    refine J0 0 38 _ hS0 ?_
    try simp only[Ja]
    refine J0 1 39 _ hS0 ?_
    try simp only[Ja]
    refine J0 2 40 _ hS0 ?_
    try simp only[Ja]
    refine J0 3 41 (.slice (some ⟨g,j,none⟩) (k - j) (k - j)) hS0 ?_
    try simp only[Ja]
    refine J0 4 42 _ hS0 ?_
    try simp only[Ja]
    refine J0 5 43 _ hS0 ?_
    try simp only[Ja]
    refine J0 6 44 (.slice (some ⟨g,0,none⟩) j k) hS0 ?_
    try simp only[Ja]
    obtain ⟨m,hm,hmj,hmle⟩:∃ m,m=Nat.min j (k - j)∧m≤j∧(j+m≤k∧1≤m):=⟨_,rfl,Nat.min_le_left _ _,by simp only[Nat.min_def];split <;> omega⟩
    have hcp:=run_copy_row (P:=Tryz.prog) W1 75 75 3 4 g j (k - j) (k - j) ⟨g,0,none⟩ j k (ZU (Value.bool x) (Value.bool false) k j).toArray 4 (List.replicate m (Value.bool x)) Tryz.underlying75 hsz HR1.out.1 (by rw[List.length_replicate];exact hm) (fun i v hi=>by
     have hi2:=(List.getElem?_eq_some_iff.1 hi).1
     rw[List.length_replicate] at hi2
     rw[List.getElem?_replicate,if_pos hi2] at hi
     cases hi
     have hij:i<j:=by omega
     have h:=Z1O HR1.out.1 hij
     rw[show (Addr.add ⟨g,0,none⟩ i)=⟨g,i,none⟩ from by unfold Addr.add;split <;> simp_all]
     exact h) (by rw[List.length_replicate];have:=Z3d (u:=(Value.bool x)) (z:=(Value.bool false)) hjk;simp only[List.size_toArray];omega) (fun v hv=>by rw[(List.mem_replicate.1 hv).2];rfl)
    have hr1:(ZU (Value.bool x) (Value.bool false) k j).toArray.toList.take j++List.replicate m (Value.bool x)++(ZU (Value.bool x) (Value.bool false) k j).toArray.toList.drop (j+(List.replicate m (Value.bool x)).length)=ZU (Value.bool x) (Value.bool false) k (j+m):=by rw[List.length_replicate];exact Th hmle.1
    rw[hr1,List.length_replicate] at hcp
    clear hm
    have HR2:Hid ((W1.setRow g (ZU (Value.bool x) (Value.bool false) k (j+m)).toArray).heap[g]?=some (.cells (ZU (Value.bool x) (Value.bool false) k (j+m)).toArray 4 (0,0))∧Below g w (W1.setRow g (ZU (Value.bool x) (Value.bool false) k (j+m)).toArray)):=Lib.hid ⟨setRow_heap W1 g _ _ _ _ HR1.out.1,below_setRow HR1.out.2 (Nat.le_refl _) _⟩
    generalize W1.setRow g (ZU (Value.bool x) (Value.bool false) k (j+m)).toArray=W2 at hcp HR2
    refine Zk (i:=7) (d:=some 45) (v:=.int .i64 m) (w':=W2) (by kernel_rfl) rfl rfl (by rfl) (Z1y rfl rfl rfl hcp) (fun _=>trivial) ?_
    try simp only[Ja]
    have hadd:IntKind.i64.wrap ((j:Int)+(m:Int))=((j+m:Nat):Int):=by rw[IntWalk.i64_in _ (by omega)];omega
    refine Zk (i:=8) (d:=some 46) (v:=.int .i64 ((j+m:Nat):Int)) (w':=W2) (by kernel_rfl) rfl rfl (by rfl) (by go_simp;try rfl) (fun _=>trivial) ?_
    try simp only[Ja]
    refine Zk (i:=9) (d:=some 8) (v:=.int .i64 ((j+m:Nat):Int)) (w':=W2) (by kernel_rfl) rfl rfl (by rfl) (by go_simp;try rfl) (fun _=>trivial) ?_
    try simp only[Ja]
    refine Z3 (by kernel_rfl) ?_ _
    clear hS0 hcp hr1 HR1
    go_wp2_with fail
    go_roundg (k - (j+m))
    case measure=>rw[HGK.out];omega
    case rel=>exact ⟨j+m,rfl,rfl,by omega,by omega,HR2⟩
   ·obtain rfl:j=k:=by omega
    have hl1:¬ (j:Int)<(j:Int):=by omega
    have HO:Hid (Own btc 1 4 g wr (.slice (some ⟨g,0,none⟩) j j) (List.replicate j x)):=Jh (RE (u:=(Value.bool x)) (z:=(Value.bool false)) (fun x=>⟨_,rfl⟩) rfl HR.out.1 hk)
    clear hlt hk
    go_wp2_with fail
    go_ret
    try rw[hg]
    exact ⟨_,rfl,HO.out,HR.out.2⟩
end Go.Proofs.YtgmdimbiipemhaaGreatDoor
namespace Go.Proofs.YtgmdimbiipemhaaGreatDoor
open Go.RowKit
def Xv (w:World) (l:List UInt8) (e:Ending) (w':World):Prop:=∃ v,e=.returned v∧Own u8c 1 5 w.heap.size w' v l∧Below w.heap.size w w'
theorem Xx {n:Nat} (h:n<18446744073709551616):(Z5 n).length≤10:=(Wg n 10 (by omega)).2 (by omega)
theorem UE (n:Nat) (w:World) (h:n<18446744073709551616):Calls Tryz.prog 64 #[.int .u64 n] w fun e w'=>Xv w (Z5 n) e w':=by
 obtain ⟨i0,hi,hz0,hz1,hz2⟩:=info_parts YO
 have HL:=Jh (Xx h)
 go_enter Tryz.func64,Tryz.ntmps64
 go_wp2_with fail
 go_loopg [0,3] n (fun g nv ov wr=>∃ (m:Nat) (s:Sl) (l:List UInt8),g=m∧nv=.int .u64 m∧ov=.slice s.a s.n s.cap∧m<18446744073709551616∧Hid (Z5 n=l++Z5 m)∧Hid (Own u8c 1 5 w.heap.size wr (.slice s.a s.n s.cap) l∧Below w.heap.size w wr))
 case atStart=>exact ⟨n,⟨none,0,0⟩,[],rfl,rfl,rfl,h,Lib.hid rfl,Lib.hid ⟨Own.nil,Below.refl _ _⟩⟩
 case round =>
  obtain ⟨m,⟨sa,sn,sc⟩,l,hg,rfl,rfl,hm,HE,HU⟩:=hrel
  dsimp only at HU ⊢
  have HG:=Lib.hid hg
  clear hg
  have hll:l.length≤9:=by
   have h1:=HL.out
   have h2:=List.length_pos_iff.2 (Wl m)
   rw[HE.out,List.length_append] at h1
   omega
  have hws:=HU.out.2.size
  by_cases h128:m<128
  ·obtain ⟨y,rfl⟩:∃ y:UInt8,m=y.toNat:=⟨UInt8.ofNat m,(Yv (by omega)).symm⟩
   have hy:=y.toNat_lt
   have hle:¬ (128:Int)≤(y.toNat:Int):=by omega
   have HEE:Hid (l++[y]=Z5 n):=Jh (by rw[HE.out,XL h128];simp)
   clear h128
   go_wp2_with (at_builtin;refine Y7 rfl _ _ _ rfl i0 _ 1 Tryz.underlying22 hi hz0 hz1 hz2 rfl (by omega) Z7 Wt rfl (HU.out.1.alloc _) y wr.heap.size 1 rfl (Rd _ y) (by unfold maxLen;omega) (by omega) (by simp;omega) ?_)
   intro v' w3 hown3 hx3
   have hB3:=Ext.new (HU.out.2.alloc HU.out.2.size (.cells #[.int .u8 y.toNat] 5)) hx3 (fun i hi _ e=>by have:=(HU.out.1.blk i e).1;omega) (by simp;omega)
   rw[HEE.out] at hown3
   have HN:=Jh (And.intro hown3 hB3)
   clear hown3 hx3 hB3
   go_wp2_with fail
   go_ret
   exact ⟨_,rfl,HN.out.1,HN.out.2⟩
  ·have hle:(128:Int)≤(m:Int):=by omega
   obtain ⟨y,hy⟩:∃ y:UInt8,y=UInt8.ofNat (m % 128+128):=⟨_,rfl⟩
   have hy2:y.toNat=m % 128+128:=by rw[hy];exact Yv (by omega)
   have HEE:Hid (Z5 n=(l++[y])++Z5 (m / 128)):=Jh (by rw[HE.out,Vg h128,←hy];simp)
   have hq:bits .or .u8 ((m:Int) % 256) 128=(y.toNat:Int):=by
    rw[show (m:Int) % 256=((m % 256:Nat):Int) by omega,Z4B _ (by omega),hy2]
    omega
   have hmd:((m / 128:Nat):Int)=(m:Int) / 128:=by omega
   have HMD:=Lib.hid hmd
   have hlt:m / 128<m:=by omega
   have HLT:=Lib.hid hlt
   clear hy hy2 h128 hmd hlt
   go_wp2_with (at_builtin;refine Y7 rfl _ _ _ rfl i0 _ 1 Tryz.underlying22 hi hz0 hz1 hz2 rfl (by omega) Z7 Wt rfl (HU.out.1.alloc _) y wr.heap.size 1 rfl (Rd _ y) (by unfold maxLen;omega) (by omega) (by simp;omega) ?_)
   intro v' w3 hown3 hx3
   have hB3:=Ext.new (HU.out.2.alloc HU.out.2.size (.cells #[.int .u8 y.toNat] 5)) hx3 (fun i hi _ e=>by have:=(HU.out.1.blk i e).1;omega) (by simp;omega)
   obtain ⟨⟨ua,un,uc⟩,e3⟩:=hown3.sl
   dsimp only at e3
   subst e3
   have HN:=Jh (And.intro hown3 hB3)
   clear hown3 hx3 hB3 hq
   go_wp2_with fail
   go_roundg (m / 128)
   case measure=>rw[HG.out];exact HLT.out
   case rel=>exact ⟨m / 128,⟨ua,un,uc⟩,_,rfl,by first|rfl|simp,rfl,by omega,HEE,HN⟩
theorem V6 (n:Nat) (w:World) (h:n<18446744073709551616):Calls Tryz.prog 66 #[.int .u64 n] w fun e w'=>Xv w (Z5 n) e w':=by
 obtain ⟨i0,hi,hz0,hz1,hz2⟩:=info_parts YO
 have HL:=Jh (Xx h)
 go_enter Tryz.func66,Tryz.ntmps66
 go_wp2_with fail
 go_loopg [0,3] n (fun g nv ov wr=>∃ (m:Nat) (s:Sl) (l:List UInt8),g=m∧nv=.int .u64 m∧ov=.slice s.a s.n s.cap∧m<18446744073709551616∧Hid (Z5 n=l++Z5 m)∧Hid (Own u8c 1 5 w.heap.size wr (.slice s.a s.n s.cap) l∧Below w.heap.size w wr))
 case atStart=>exact ⟨n,⟨none,0,0⟩,[],rfl,rfl,rfl,h,Lib.hid rfl,Lib.hid ⟨Own.nil,Below.refl _ _⟩⟩
 case round =>
  obtain ⟨m,⟨sa,sn,sc⟩,l,hg,rfl,rfl,hm,HE,HU⟩:=hrel
  dsimp only at HU ⊢
  have HG:=Lib.hid hg
  clear hg
  have hll:l.length≤9:=by
   have h1:=HL.out
   have h2:=List.length_pos_iff.2 (Wl m)
   rw[HE.out,List.length_append] at h1
   omega
  have hws:=HU.out.2.size
  by_cases h128:m<128
  ·obtain ⟨y,rfl⟩:∃ y:UInt8,m=y.toNat:=⟨UInt8.ofNat m,(Yv (by omega)).symm⟩
   have hy:=y.toNat_lt
   have hle:¬ (128:Int)≤(y.toNat:Int):=by omega
   have HEE:Hid (l++[y]=Z5 n):=Jh (by rw[HE.out,XL h128];simp)
   clear h128
   go_wp2_with (at_builtin;refine Y7 rfl _ _ _ rfl i0 _ 1 Tryz.underlying22 hi hz0 hz1 hz2 rfl (by omega) Z7 Wt rfl (HU.out.1.alloc _) y wr.heap.size 1 rfl (Rd _ y) (by unfold maxLen;omega) (by omega) (by simp;omega) ?_)
   intro v' w3 hown3 hx3
   have hB3:=Ext.new (HU.out.2.alloc HU.out.2.size (.cells #[.int .u8 y.toNat] 5)) hx3 (fun i hi _ e=>by have:=(HU.out.1.blk i e).1;omega) (by simp;omega)
   rw[HEE.out] at hown3
   have HN:=Jh (And.intro hown3 hB3)
   clear hown3 hx3 hB3
   go_wp2_with fail
   go_ret
   exact ⟨_,rfl,HN.out.1,HN.out.2⟩
  ·have hle:(128:Int)≤(m:Int):=by omega
   obtain ⟨y,hy⟩:∃ y:UInt8,y=UInt8.ofNat (m % 128+128):=⟨_,rfl⟩
   have hy2:y.toNat=m % 128+128:=by rw[hy];exact Yv (by omega)
   have HEE:Hid (Z5 n=(l++[y])++Z5 (m / 128)):=Jh (by rw[HE.out,Vg h128,←hy];simp)
   have hq:(m:Int) % 128+128=(y.toNat:Int):=by
    omega
   have hmd:((m / 128:Nat):Int)=(m:Int) / 128:=by omega
   have HMD:=Lib.hid hmd
   have hlt:m / 128<m:=by omega
   have HLT:=Lib.hid hlt
   clear hy hy2 h128 hmd hlt
   go_wp2_with (at_builtin;refine Y7 rfl _ _ _ rfl i0 _ 1 Tryz.underlying22 hi hz0 hz1 hz2 rfl (by omega) Z7 Wt rfl (HU.out.1.alloc _) y wr.heap.size 1 rfl (Rd _ y) (by unfold maxLen;omega) (by omega) (by simp;omega) ?_)
   intro v' w3 hown3 hx3
   have hB3:=Ext.new (HU.out.2.alloc HU.out.2.size (.cells #[.int .u8 y.toNat] 5)) hx3 (fun i hi _ e=>by have:=(HU.out.1.blk i e).1;omega) (by simp;omega)
   obtain ⟨⟨ua,un,uc⟩,e3⟩:=hown3.sl
   dsimp only at e3
   subst e3
   have HN:=Jh (And.intro hown3 hB3)
   clear hown3 hx3 hB3 hq
   go_wp2_with fail
   go_roundg (m / 128)
   case measure=>rw[HG.out];exact HLT.out
   case rel=>exact ⟨m / 128,⟨ua,un,uc⟩,_,rfl,by first|rfl|simp,rfl,by omega,HEE,HN⟩
noncomputable def Yg (b:List UInt8):Value:=match ZA b with
 | some n=>.tuple #[.int .u64 n,.int .i64 (Z5 n).length,.int .i64 0]
 | none=>.tuple #[.int .u64 0,.int .i64 0,.int .i64 31]
theorem XT {b:List UInt8} {n:Nat} (h:Ws b n):Yg b=.tuple #[.int .u64 n,.int .i64 (Z5 n).length,.int .i64 0]:=by unfold Yg;rw[Zz.2 h]
theorem Yq {b:List UInt8} (h:∀ n,¬ Ws b n):Yg b=.tuple #[.int .u64 0,.int .i64 0,.int .i64 31]:=by unfold Yg;rw[VO.2 h]
theorem TE {b:List UInt8} {i:Nat} {x:UInt8} (hx:b[i]?=some x):Yd (b.take (i+1))=Yd (b.take i)+x.toNat % 128*128 ^ i:=by
 rw[QV hx,Tg,List.length_take,Nat.min_eq_left (by have:=(List.getElem?_eq_some_iff.1 hx).1;omega)]
theorem S3 {vk xl k:Nat} (hv:vk<128 ^ k) (h:(xl<128∧k≤8)∨(xl≤1∧k=9)):bits .or .u64 (vk:Int) (IntKind.u64.wrap ((xl:Int)*2 ^ (7*k)))=((vk+xl*128 ^ k:Nat):Int)∧vk+xl*128 ^ k<18446744073709551616:=by
 have e:128 ^ k=2 ^ (7*k):=by rw[Nat.pow_mul]
 have hs:vk+xl*128 ^ k<18446744073709551616:=by
  rcases h with ⟨h1,h2⟩|⟨h1,rfl⟩
  ·have h3:128 ^ k≤128 ^ 8:=Nat.pow_le_pow_right (by omega) h2
   have h4:xl*128 ^ k≤127*128 ^ k:=Nat.mul_le_mul_right _ (by omega)
   omega
  ·have h4:xl*128 ^ 9≤1*128 ^ 9:=Nat.mul_le_mul_right _ h1
   omega
 refine ⟨?_,hs⟩
 rw[e] at hs hv ⊢
 have e2:((xl:Int)*2 ^ (7*k))=((xl*2 ^ (7*k):Nat):Int):=by push_cast;rfl
 rw[e2,Yc,show ((xl*2 ^ (7*k):Nat):Int) % 18446744073709551616=((xl*2 ^ (7*k):Nat):Int) by omega]
 exact Z2f vk xl (7*k) hv hs
theorem Z8b (i:Nat):128 ^ i=2 ^ (7*i):=by rw[Nat.pow_mul]
theorem Vv (v:Value) (b:List UInt8) (w:World) (h:Z0 u8c 1 w v b):Calls Tryz.prog 103 #[v] w fun e w'=>e=.returned (Yg b)∧w=w':=by
 obtain ⟨a,cap,rfl,hcap,hmax,-⟩:=id h
 unfold maxLen at hmax
 have HH:=Lib.hid h
 obtain ⟨mn,hmn⟩:∃ mn:Nat,mn=min b.length 10:=⟨_,rfl⟩
 have hmn1:mn≤b.length:=by omega
 have hmn2:mn≤10:=by omega
 have HMN:=Jh (show mn=b.length∨mn=10 by omega)
 clear h hmn
 have h3:b.length<10∨b.length=10∨10<b.length:=by omega
 go_enter Tryz.func103,Tryz.ntmps103
 rcases h3 with h3|h3|h3
 ·have hi1:(b.length:Int)<10:=by omega
  have hi2:(b.length:Int)≤10:=by omega
  obtain rfl:mn=b.length:=by rcases HMN.out with e|e <;> omega
  go_wp2_with fail
  go_loopg [5,11] (b.length) (fun g nv iv wr=>∃ k:Nat,g=(b.length) - k∧k≤(b.length)∧nv=.int .u64 (Yd (b.take k))∧iv=.int .i64 k∧Hid (WM b k)∧w=wr)
  case atStart=>exact ⟨0,rfl,Nat.zero_le _,by simp[Yd],rfl,Jh (TD b),rfl⟩
  case round =>
   obtain ⟨k,hg,hk,rfl,rfl,HGO,rfl⟩:=hrel
   have HG:=Lib.hid hg
   clear hg
   by_cases hlt:k<(b.length)
   ·obtain ⟨c,hc⟩:∃ c,b[k]?=some c:=⟨_,List.getElem?_eq_getElem (by omega)⟩
    obtain ⟨bb,o,rfl,c0⟩:=HH.out.at1 hc rfl
    have hcl:=c.toNat_lt
    have hk1:(k:Int)<(b.length:Int):=by omega
    have hk2:(k:Int)<10:=by omega
    have hk3:(k:Int)≤9:=by omega
    have HC:=Lib.hid hc
    obtain ⟨xl,hxl⟩:=Je (c.toNat % 128)
    have hand:bits .and .u8 (c.toNat:Int) 127=(xl:Int):=by rw[TM _ (by omega),hxl]
    have hx128:xl<128:=by omega
    have HXL:=Lib.hid hxl
    have HV:=Jh (TE hc)
    have HVL:=Jh (U8 (b.take k))
    obtain ⟨vk,hvk⟩:=Je (Yd (b.take k))
    rw[hvk]
    have HVK:=Lib.hid hvk
    clear hc hxl hvk
    have hvk2:vk<128 ^ k:=by rw[←HVK.out];have:=U8 (b.take k);rwa [List.length_take,Nat.min_eq_left (by omega)] at this
    have HVK2:=Lib.hid hvk2
    clear hvk2
    by_cases h9:k=9
    ·exfalso;omega
    ·have hk9:(k:Int)<9:=by omega
     have hk91:¬ (k:Int)=9:=by omega
     have hk92:((k:Int) == 9)=false:=by simpa using hk91
     obtain ⟨hor,hnb⟩:=S3 (xl:=xl) HVK2.out (.inl ⟨hx128,by omega⟩)
     obtain ⟨nn,hnn⟩:=Je (Yd (b.take (k+1)))
     have hnv:vk+xl*128 ^ k=nn:=by rw[←hnn,HV.out,HVK.out,HXL.out]
     rw[hnv] at hor hnb
     have HNN:=Lib.hid hnn
     have HOR:=Lib.hid hor
     have hor1:=HOR.out
     clear hor hnv hnn
     by_cases hc128:c.toNat<128
     ·have hcl1:(c.toNat:Int)<128:=by omega
      have hxc:xl=c.toNat:=by rw[←HXL.out];exact Nat.mod_eq_of_lt hc128
      by_cases h0:0<k∧xl=0
      ·obtain ⟨h01,rfl⟩:=h0
       have hk0:(0:Int)<(k:Int):=by omega
       have HR:=Jh (Yq (fun n=>HGO.out.bad HC.out (.inl ⟨h01,hxc.symm⟩)))
       clear h01 hxc hc128
       go_wp2_with fail
       go_ret3
       exact ⟨by rw[HR.out];rfl,rfl⟩
      ·have hst:=HGO.out.stop HC.out hc128 (fun h1 h2=>h0 ⟨h1,hxc.trans h2⟩) (by rw[HNN.out];exact hnb)
       rw[HNN.out] at hst
       have HR:=Jh (XT hst.1)
       have HL:=Lib.hid hst.2
       have h0k:¬ 0<k∨(0<k∧¬ xl=0):=by
        by_cases h01:0<k
        ·exact .inr ⟨h01,fun e=>h0 ⟨h01,e⟩⟩
        ·exact .inl h01
       clear hxc hc128 h0 hst
       rcases h0k with h0k|⟨h0k,h0x⟩
       ·have hk0:¬ (0:Int)<(k:Int):=by omega
        go_wp2_with fail
        go_ret3
        exact ⟨by rw[HR.out,HL.out];simp,rfl⟩
       ·have hk0:(0:Int)<(k:Int):=by omega
        have hx0:¬ (xl:Int)=0:=by omega
        have hx02:((xl:Int) == 0)=false:=by simpa using hx0
        clear h0x
        go_wp2_with fail
        go_ret3
        exact ⟨by rw[HR.out,HL.out];simp,rfl⟩
     ·have hcl1:¬ (c.toNat:Int)<128:=by omega
      have HGO2:=Jh (HGO.out.succ HC.out (by omega))
      clear hc128
      go_wp2_with fail
      go_roundg ((b.length) - (k+1))
      case measure=>rw[HG.out];omega
      case rel=>exact ⟨k+1,rfl,by omega,by first|rw[HNN.out]|(simp;exact HNN.out.symm),by simp,HGO2,rfl⟩
   ·obtain rfl:k=(b.length):=by omega
    have hkk:¬ (b.length:Int)<(b.length:Int):=by omega
    have HR:=Jh (Yq (fun n=>HGO.out.over (.inl rfl)))
    clear hlt hk
    go_wp2_with fail
    go_ret3
    exact ⟨by rw[HR.out];rfl,rfl⟩
 ·have hi1:¬ (b.length:Int)<10:=by omega
  have hi2:(b.length:Int)≤10:=by omega
  have hi3:¬ (10:Int)<(b.length:Int):=by omega
  obtain rfl:mn=10:=by rcases HMN.out with e|e <;> omega
  go_wp2_with fail
  go_loopg [5,11] (10) (fun g nv iv wr=>∃ k:Nat,g=(10) - k∧k≤(10)∧nv=.int .u64 (Yd (b.take k))∧iv=.int .i64 k∧Hid (WM b k)∧w=wr)
  case atStart=>exact ⟨0,rfl,Nat.zero_le _,by simp[Yd],rfl,Jh (TD b),rfl⟩
  case round =>
   obtain ⟨k,hg,hk,rfl,rfl,HGO,rfl⟩:=hrel
   have HG:=Lib.hid hg
   clear hg
   by_cases hlt:k<(10)
   ·obtain ⟨c,hc⟩:∃ c,b[k]?=some c:=⟨_,List.getElem?_eq_getElem (by omega)⟩
    obtain ⟨bb,o,rfl,c0⟩:=HH.out.at1 hc rfl
    have hcl:=c.toNat_lt
    have hk1:(k:Int)<(b.length:Int):=by omega
    have hk2:(k:Int)<10:=by omega
    have hk3:(k:Int)≤9:=by omega
    have HC:=Lib.hid hc
    obtain ⟨xl,hxl⟩:=Je (c.toNat % 128)
    have hand:bits .and .u8 (c.toNat:Int) 127=(xl:Int):=by rw[TM _ (by omega),hxl]
    have hx128:xl<128:=by omega
    have HXL:=Lib.hid hxl
    have HV:=Jh (TE hc)
    have HVL:=Jh (U8 (b.take k))
    obtain ⟨vk,hvk⟩:=Je (Yd (b.take k))
    rw[hvk]
    have HVK:=Lib.hid hvk
    clear hc hxl hvk
    have hvk2:vk<128 ^ k:=by rw[←HVK.out];have:=U8 (b.take k);rwa [List.length_take,Nat.min_eq_left (by omega)] at this
    have HVK2:=Lib.hid hvk2
    clear hvk2
    by_cases h9:k=9
    ·subst h9
     by_cases hx:1<xl
     ·have hx1:(1:Int)<(xl:Int):=by omega
      have HR:=Jh (Yq (fun n=>HGO.out.bad HC.out (.inr ⟨rfl,by rw[HXL.out];exact hx⟩)))
      clear hx
      go_wp2_with fail
      go_ret3
      exact ⟨by rw[HR.out];rfl,rfl⟩
     ·have hx1:¬ (1:Int)<(xl:Int):=by omega
      obtain ⟨hor,hnb⟩:=S3 (xl:=xl) HVK2.out (.inr ⟨by omega,rfl⟩)
      obtain ⟨nn,hnn⟩:=Je (Yd (b.take (9+1)))
      have hnv:vk+xl*128 ^ 9=nn:=by rw[←hnn,HV.out,HVK.out,HXL.out]
      rw[hnv] at hor hnb
      have HNN:=Lib.hid hnn
      have HOR:=Lib.hid hor
      have hor1:=HOR.out
      clear hor hnv hnn
      have hor2:bits .or .u64 (vk:Int) (IntKind.u64.wrap ((xl:Int)*9223372036854775808))=(nn:Int):=HOR.out
      have hor3:bits .or .u64 (vk:Int) ((xl:Int)*9223372036854775808)=(nn:Int):=by rw[←hor2,Yc,show (xl:Int)*9223372036854775808 % 18446744073709551616=(xl:Int)*9223372036854775808 by omega]
      by_cases hc128:c.toNat<128
      ·have hcl1:(c.toNat:Int)<128:=by omega
       have hxc:xl=c.toNat:=by rw[←HXL.out];exact Nat.mod_eq_of_lt hc128
       by_cases h0:0<9∧xl=0
       ·obtain ⟨h01,rfl⟩:=h0
        have hk0:(0:Int)<(9:Int):=by omega
        have HR:=Jh (Yq (fun n=>HGO.out.bad HC.out (.inl ⟨h01,hxc.symm⟩)))
        clear h01 hxc hc128
        go_wp2_with fail
        go_ret3
        exact ⟨by rw[HR.out];rfl,rfl⟩
       ·have hst:=HGO.out.stop HC.out hc128 (fun h1 h2=>h0 ⟨h1,hxc.trans h2⟩) (by rw[HNN.out];exact hnb)
        rw[HNN.out] at hst
        have HR:=Jh (XT hst.1)
        have HL:=Lib.hid hst.2
        have h0k:¬ 0<9∨(0<9∧¬ xl=0):=by
         by_cases h01:0<9
         ·exact .inr ⟨h01,fun e=>h0 ⟨h01,e⟩⟩
         ·exact .inl h01
        clear hxc hc128 h0 hst
        rcases h0k with h0k|⟨h0k,h0x⟩
        ·exact absurd (show 0<9 by decide) h0k
        ·have hk0:(0:Int)<(9:Int):=by omega
         have hx0:¬ (xl:Int)=0:=by omega
         have hx02:((xl:Int) == 0)=false:=by simpa using hx0
         clear h0x
         go_wp2_with fail
         go_ret3
         exact ⟨by rw[HR.out,HL.out];simp,rfl⟩
      ·have hcl1:¬ (c.toNat:Int)<128:=by omega
       have HGO2:=Jh (HGO.out.succ HC.out (by omega))
       clear hc128
       go_wp2_with fail
       go_roundg ((10) - (9+1))
       case measure=>rw[HG.out];omega
       case rel=>exact ⟨9+1,rfl,by omega,by first|rw[HNN.out]|(simp;exact HNN.out.symm),by simp,HGO2,rfl⟩
    ·have hk9:(k:Int)<9:=by omega
     have hk91:¬ (k:Int)=9:=by omega
     have hk92:((k:Int) == 9)=false:=by simpa using hk91
     obtain ⟨hor,hnb⟩:=S3 (xl:=xl) HVK2.out (.inl ⟨hx128,by omega⟩)
     obtain ⟨nn,hnn⟩:=Je (Yd (b.take (k+1)))
     have hnv:vk+xl*128 ^ k=nn:=by rw[←hnn,HV.out,HVK.out,HXL.out]
     rw[hnv] at hor hnb
     have HNN:=Lib.hid hnn
     have HOR:=Lib.hid hor
     have hor1:=HOR.out
     clear hor hnv hnn
     by_cases hc128:c.toNat<128
     ·have hcl1:(c.toNat:Int)<128:=by omega
      have hxc:xl=c.toNat:=by rw[←HXL.out];exact Nat.mod_eq_of_lt hc128
      by_cases h0:0<k∧xl=0
      ·obtain ⟨h01,rfl⟩:=h0
       have hk0:(0:Int)<(k:Int):=by omega
       have HR:=Jh (Yq (fun n=>HGO.out.bad HC.out (.inl ⟨h01,hxc.symm⟩)))
       clear h01 hxc hc128
       go_wp2_with fail
       go_ret3
       exact ⟨by rw[HR.out];rfl,rfl⟩
      ·have hst:=HGO.out.stop HC.out hc128 (fun h1 h2=>h0 ⟨h1,hxc.trans h2⟩) (by rw[HNN.out];exact hnb)
       rw[HNN.out] at hst
       have HR:=Jh (XT hst.1)
       have HL:=Lib.hid hst.2
       have h0k:¬ 0<k∨(0<k∧¬ xl=0):=by
        by_cases h01:0<k
        ·exact .inr ⟨h01,fun e=>h0 ⟨h01,e⟩⟩
        ·exact .inl h01
       clear hxc hc128 h0 hst
       rcases h0k with h0k|⟨h0k,h0x⟩
       ·have hk0:¬ (0:Int)<(k:Int):=by omega
        go_wp2_with fail
        go_ret3
        exact ⟨by rw[HR.out,HL.out];simp,rfl⟩
       ·have hk0:(0:Int)<(k:Int):=by omega
        have hx0:¬ (xl:Int)=0:=by omega
        have hx02:((xl:Int) == 0)=false:=by simpa using hx0
        clear h0x
        go_wp2_with fail
        go_ret3
        exact ⟨by rw[HR.out,HL.out];simp,rfl⟩
     ·have hcl1:¬ (c.toNat:Int)<128:=by omega
      have HGO2:=Jh (HGO.out.succ HC.out (by omega))
      clear hc128
      go_wp2_with fail
      go_roundg ((10) - (k+1))
      case measure=>rw[HG.out];omega
      case rel=>exact ⟨k+1,rfl,by omega,by first|rw[HNN.out]|(simp;exact HNN.out.symm),by simp,HGO2,rfl⟩
   ·obtain rfl:k=(10):=by omega
    have hkk:¬ (10:Int)<(10:Int):=by omega
    have HR:=Jh (Yq (fun n=>HGO.out.over (.inr rfl)))
    clear hlt hk
    go_wp2_with fail
    go_ret3
    exact ⟨by rw[HR.out];rfl,rfl⟩
 ·have hi1:¬ (b.length:Int)<10:=by omega
  have hi2:¬ (b.length:Int)≤10:=by omega
  have hi3:(10:Int)<(b.length:Int):=by omega
  obtain rfl:mn=10:=by rcases HMN.out with e|e <;> omega
  go_wp2_with fail
  go_loopg [5,11] (10) (fun g nv iv wr=>∃ k:Nat,g=(10) - k∧k≤(10)∧nv=.int .u64 (Yd (b.take k))∧iv=.int .i64 k∧Hid (WM b k)∧w=wr)
  case atStart=>exact ⟨0,rfl,Nat.zero_le _,by simp[Yd],rfl,Jh (TD b),rfl⟩
  case round =>
   obtain ⟨k,hg,hk,rfl,rfl,HGO,rfl⟩:=hrel
   have HG:=Lib.hid hg
   clear hg
   by_cases hlt:k<(10)
   ·obtain ⟨c,hc⟩:∃ c,b[k]?=some c:=⟨_,List.getElem?_eq_getElem (by omega)⟩
    obtain ⟨bb,o,rfl,c0⟩:=HH.out.at1 hc rfl
    have hcl:=c.toNat_lt
    have hk1:(k:Int)<(b.length:Int):=by omega
    have hk2:(k:Int)<10:=by omega
    have hk3:(k:Int)≤9:=by omega
    have HC:=Lib.hid hc
    obtain ⟨xl,hxl⟩:=Je (c.toNat % 128)
    have hand:bits .and .u8 (c.toNat:Int) 127=(xl:Int):=by rw[TM _ (by omega),hxl]
    have hx128:xl<128:=by omega
    have HXL:=Lib.hid hxl
    have HV:=Jh (TE hc)
    have HVL:=Jh (U8 (b.take k))
    obtain ⟨vk,hvk⟩:=Je (Yd (b.take k))
    rw[hvk]
    have HVK:=Lib.hid hvk
    clear hc hxl hvk
    have hvk2:vk<128 ^ k:=by rw[←HVK.out];have:=U8 (b.take k);rwa [List.length_take,Nat.min_eq_left (by omega)] at this
    have HVK2:=Lib.hid hvk2
    clear hvk2
    by_cases h9:k=9
    ·subst h9
     by_cases hx:1<xl
     ·have hx1:(1:Int)<(xl:Int):=by omega
      have HR:=Jh (Yq (fun n=>HGO.out.bad HC.out (.inr ⟨rfl,by rw[HXL.out];exact hx⟩)))
      clear hx
      go_wp2_with fail
      go_ret3
      exact ⟨by rw[HR.out];rfl,rfl⟩
     ·have hx1:¬ (1:Int)<(xl:Int):=by omega
      obtain ⟨hor,hnb⟩:=S3 (xl:=xl) HVK2.out (.inr ⟨by omega,rfl⟩)
      obtain ⟨nn,hnn⟩:=Je (Yd (b.take (9+1)))
      have hnv:vk+xl*128 ^ 9=nn:=by rw[←hnn,HV.out,HVK.out,HXL.out]
      rw[hnv] at hor hnb
      have HNN:=Lib.hid hnn
      have HOR:=Lib.hid hor
      have hor1:=HOR.out
      clear hor hnv hnn
      have hor2:bits .or .u64 (vk:Int) (IntKind.u64.wrap ((xl:Int)*9223372036854775808))=(nn:Int):=HOR.out
      have hor3:bits .or .u64 (vk:Int) ((xl:Int)*9223372036854775808)=(nn:Int):=by rw[←hor2,Yc,show (xl:Int)*9223372036854775808 % 18446744073709551616=(xl:Int)*9223372036854775808 by omega]
      by_cases hc128:c.toNat<128
      ·have hcl1:(c.toNat:Int)<128:=by omega
       have hxc:xl=c.toNat:=by rw[←HXL.out];exact Nat.mod_eq_of_lt hc128
       by_cases h0:0<9∧xl=0
       ·obtain ⟨h01,rfl⟩:=h0
        have hk0:(0:Int)<(9:Int):=by omega
        have HR:=Jh (Yq (fun n=>HGO.out.bad HC.out (.inl ⟨h01,hxc.symm⟩)))
        clear h01 hxc hc128
        go_wp2_with fail
        go_ret3
        exact ⟨by rw[HR.out];rfl,rfl⟩
       ·have hst:=HGO.out.stop HC.out hc128 (fun h1 h2=>h0 ⟨h1,hxc.trans h2⟩) (by rw[HNN.out];exact hnb)
        rw[HNN.out] at hst
        have HR:=Jh (XT hst.1)
        have HL:=Lib.hid hst.2
        have h0k:¬ 0<9∨(0<9∧¬ xl=0):=by
         by_cases h01:0<9
         ·exact .inr ⟨h01,fun e=>h0 ⟨h01,e⟩⟩
         ·exact .inl h01
        clear hxc hc128 h0 hst
        rcases h0k with h0k|⟨h0k,h0x⟩
        ·exact absurd (show 0<9 by decide) h0k
        ·have hk0:(0:Int)<(9:Int):=by omega
         have hx0:¬ (xl:Int)=0:=by omega
         have hx02:((xl:Int) == 0)=false:=by simpa using hx0
         clear h0x
         go_wp2_with fail
         go_ret3
         exact ⟨by rw[HR.out,HL.out];simp,rfl⟩
      ·have hcl1:¬ (c.toNat:Int)<128:=by omega
       have HGO2:=Jh (HGO.out.succ HC.out (by omega))
       clear hc128
       go_wp2_with fail
       go_roundg ((10) - (9+1))
       case measure=>rw[HG.out];omega
       case rel=>exact ⟨9+1,rfl,by omega,by first|rw[HNN.out]|(simp;exact HNN.out.symm),by simp,HGO2,rfl⟩
    ·have hk9:(k:Int)<9:=by omega
     have hk91:¬ (k:Int)=9:=by omega
     have hk92:((k:Int) == 9)=false:=by simpa using hk91
     obtain ⟨hor,hnb⟩:=S3 (xl:=xl) HVK2.out (.inl ⟨hx128,by omega⟩)
     obtain ⟨nn,hnn⟩:=Je (Yd (b.take (k+1)))
     have hnv:vk+xl*128 ^ k=nn:=by rw[←hnn,HV.out,HVK.out,HXL.out]
     rw[hnv] at hor hnb
     have HNN:=Lib.hid hnn
     have HOR:=Lib.hid hor
     have hor1:=HOR.out
     clear hor hnv hnn
     by_cases hc128:c.toNat<128
     ·have hcl1:(c.toNat:Int)<128:=by omega
      have hxc:xl=c.toNat:=by rw[←HXL.out];exact Nat.mod_eq_of_lt hc128
      by_cases h0:0<k∧xl=0
      ·obtain ⟨h01,rfl⟩:=h0
       have hk0:(0:Int)<(k:Int):=by omega
       have HR:=Jh (Yq (fun n=>HGO.out.bad HC.out (.inl ⟨h01,hxc.symm⟩)))
       clear h01 hxc hc128
       go_wp2_with fail
       go_ret3
       exact ⟨by rw[HR.out];rfl,rfl⟩
      ·have hst:=HGO.out.stop HC.out hc128 (fun h1 h2=>h0 ⟨h1,hxc.trans h2⟩) (by rw[HNN.out];exact hnb)
       rw[HNN.out] at hst
       have HR:=Jh (XT hst.1)
       have HL:=Lib.hid hst.2
       have h0k:¬ 0<k∨(0<k∧¬ xl=0):=by
        by_cases h01:0<k
        ·exact .inr ⟨h01,fun e=>h0 ⟨h01,e⟩⟩
        ·exact .inl h01
       clear hxc hc128 h0 hst
       rcases h0k with h0k|⟨h0k,h0x⟩
       ·have hk0:¬ (0:Int)<(k:Int):=by omega
        go_wp2_with fail
        go_ret3
        exact ⟨by rw[HR.out,HL.out];simp,rfl⟩
       ·have hk0:(0:Int)<(k:Int):=by omega
        have hx0:¬ (xl:Int)=0:=by omega
        have hx02:((xl:Int) == 0)=false:=by simpa using hx0
        clear h0x
        go_wp2_with fail
        go_ret3
        exact ⟨by rw[HR.out,HL.out];simp,rfl⟩
     ·have hcl1:¬ (c.toNat:Int)<128:=by omega
      have HGO2:=Jh (HGO.out.succ HC.out (by omega))
      clear hc128
      go_wp2_with fail
      go_roundg ((10) - (k+1))
      case measure=>rw[HG.out];omega
      case rel=>exact ⟨k+1,rfl,by omega,by first|rw[HNN.out]|(simp;exact HNN.out.symm),by simp,HGO2,rfl⟩
   ·obtain rfl:k=(10):=by omega
    have hkk:¬ (10:Int)<(10:Int):=by omega
    have HR:=Jh (Yq (fun n=>HGO.out.over (.inr rfl)))
    clear hlt hk
    go_wp2_with fail
    go_ret3
    exact ⟨by rw[HR.out];rfl,rfl⟩
end Go.Proofs.YtgmdimbiipemhaaGreatDoor
namespace Go.Proofs.YtgmdimbiipemhaaGreatDoor
open Go.RowKit Go.Deep
theorem Z64 {xl k:Nat}:(xl:Int)*2 ^ (7*k)=((xl*128 ^ k:Nat):Int):=by
 rw[Z8b]
 push_cast
 rfl
theorem Z6o {vb xl k:Nat}:IntKind.u64.wrap (((vb % 18446744073709551616:Nat):Int)+IntKind.u64.wrap ((xl:Int)*2 ^ (7*k)))=(((vb+xl*128 ^ k) % 18446744073709551616:Nat):Int):=by
 rw[Yc,Yc,Z64]
 generalize xl*128 ^ k=p
 omega
theorem XV (v:Value) (b:List UInt8) (w:World) (h:Z0 u8c 1 w v b):Calls Tryz.prog 54 #[v] w fun e w'=>e=.returned (Yg b)∧Below w.heap.size w w':=by
 obtain ⟨a,cap,rfl,hcap,hmax,-⟩:=id h
 unfold maxLen at hmax
 have HH:=Lib.hid h
 clear h
 go_enter Tryz.func54,Tryz.ntmps54
 go_wp2_with fail
 go_loopg [5,6] 10 (fun g nv iv wr=>∃ k:Nat,g=10 - k∧k≤10∧k≤b.length∧nv=.int .u64 ((Yd (b.take k) % 18446744073709551616:Nat):Int)∧iv=.int .i64 k∧Hid (WM b k)∧Hid (Below w.heap.size w wr))
 case atStart=>exact ⟨0,rfl,by omega,Nat.zero_le _,by simp[Yd],rfl,Jh (TD b),Jh (Below.refl _ _)⟩
 case round =>
  obtain ⟨k,hg,hk,hkb,rfl,rfl,HGO,HB⟩:=hrel
  have HG:=Lib.hid hg
  clear hg
  by_cases hlt:k<b.length
  ·have hk1:(k:Int)<(b.length:Int):=by omega
   by_cases hlt2:k<10
   ·have hk2:(k:Int)<10:=by omega
    obtain ⟨c,hc⟩:∃ c,b[k]?=some c:=⟨_,List.getElem?_eq_getElem (by omega)⟩
    obtain ⟨bb,o,rfl,c0⟩:=(HH.out.below HB.out).at1 hc rfl
    have hcl:=c.toNat_lt
    have HC:=Lib.hid hc
    obtain ⟨xl,hxl⟩:=Je (c.toNat % 128)
    have hrem:(c.toNat:Int) % 128=(xl:Int):=by omega
    have hx128:xl<128:=by omega
    have HXL:=Lib.hid hxl
    have HV:=Jh (TE hc)
    obtain ⟨vb,hvb⟩:=Je (Yd (b.take k))
    obtain ⟨nn,hnn⟩:=Je (Yd (b.take (k+1)) % 18446744073709551616)
    have hn64:nn<18446744073709551616:=by rw[←hnn];exact Nat.mod_lt _ (by omega)
    rw[hvb]
    have hsum:=Z6o (vb:=vb) (xl:=xl) (k:=k)
    rw[←HXL.out,←hvb,←HV.out,hnn,hvb,HXL.out] at hsum
    obtain ⟨vm,hvm⟩:=Je (vb % 18446744073709551616)
    have hvm64:vm<18446744073709551616:=by rw[←hvm];exact Nat.mod_lt _ (by omega)
    rw[hvm] at hsum ⊢
    have HNN:=Lib.hid hnn
    have HVB:=Lib.hid hvb
    clear hc hxl hvb hnn hvm hlt hlt2
    by_cases hc128:c.toNat<128
    ·have hcl1:(c.toNat:Int)<128:=by omega
     have HCL:=Lib.hid hc128
     clear hc128
     go_upto_region 7 with fail
     clear hsum hrem hcl1
     have hwk:IntKind.i64.wrap ((k:Int)+1)=(k:Int)+1:=IntWalk.i64_in _ (by omega)
     have hs1:(0:Int)≤(k:Int)+1:=by omega
     have hs2:¬ (cap:Int)<(k:Int)+1:=by omega
     have hs3:(k:Int)+1≤(cap:Int):=by omega
     have hsz:=HB.out.size
     have b1:Below w.heap.size w wr.drew:=HB.out.drew
     have b2:Below wr.heap.size wr wr.drew:=(Below.refl _ _).drew
     have hS0:(fun W=>Z0 u8c 1 W (.slice (some ⟨bb,o,none⟩) b.length cap) b) wr.drew:=HH.out.below b1
     refine Z6 (fun W=>Z0 u8c 1 W (.slice (some ⟨bb,o,none⟩) b.length cap) b) (fun _=>false) (by kernel_rfl) ?_
     generalize wr.drew=W1 at b1 b2 hS0 ⊢
     refine JR 0 34 _ rfl rfl hS0 (fun W hW=>by go_simp;rfl) ?_
     try simp only[Ja]
     refine JR 3 37 _ rfl rfl hS0 (fun W hW=>by go_simp;rfl) ?_
     try simp only[Ja]
     refine JR 4 38 _ rfl rfl hS0 (fun W hW=>by go_simp;rfl) ?_
     try simp only[Ja]
     refine J0 5 39 (.int .i64 ((k+1:Nat):Int)) hS0 ?_
     try simp only[Ja]
     refine J0 6 40 (.slice (some ⟨bb,o,none⟩) ((k+1:Nat)) cap) hS0 ?_
     try simp only[Ja]
     refine JR 7 41 (.string ⟨(b.take (k+1)).toArray⟩) rfl rfl hS0 (fun W hW=>by have hcv:=Zs (hW.take1 (k:=k+1) (by omega));go_simp) ?_
     try simp only[Ja]
     refine Zm (i:=1) (d:=some 35) (f:=66) (args:=#[.int .u64 nn]) (w':=W1) (by kernel_rfl) rfl rfl (by rfl) (by go_simp;try rfl) ?_
     refine (V6 nn _ hn64).mono ?_
     rintro e w5 ⟨v5,rfl,hown,b5⟩
     refine ⟨_,rfl,fun _=>Z0.below hS0 b5,?_⟩
     try simp only[Ja]
     have hS5:=Z0.below hS0 b5
     have hcv:=Zs (hown.slice Z7)
     obtain ⟨⟨sa,sn,sc⟩,e5⟩:=hown.sl
     dsimp only at e5
     subst e5
     refine Zk (i:=2) (d:=some 36) (v:=.string ⟨(Z5 nn).toArray⟩) (w':=w5) (by kernel_rfl) rfl rfl (by rfl) (by go_simp;try rfl) (fun _=>hS5) ?_
     try simp only[Ja]
     refine Zk (i:=8) (d:=some 42) (v:=.bool (decide (Z5 nn=b.take (k+1)))) (w':=w5) (by kernel_rfl) rfl rfl (by rfl) (by
      by_cases hq:Z5 nn=b.take (k+1)
      ·rw[hq,decide_eq_true rfl]
       have he:=XK ⟨(b.take (k+1)).toArray⟩ ⟨(b.take (k+1)).toArray⟩
       rw[decide_eq_true rfl] at he
       go_simp
       try rfl
      ·obtain ⟨n1,n2⟩:=Z8e hq
       rw[decide_eq_false hq]
       go_simp
       try rfl) (fun _=>hS5) ?_
     try simp only[Ja]
     refine Z3 (by kernel_rfl) ?_ _
     have HB5:=Jh (b1.trans (b5.mono b1.size))
     clear hS0 hS5 hcv hown b5 b1 b2
     have HB5b:=Jh (HB5.out.size)
     by_cases heq:Z5 nn=b.take (k+1)
     ·have hd:decide (Z5 nn=b.take (k+1))=true:=decide_eq_true heq
      have hln:(Z5 nn).length=k+1:=by rw[heq,List.length_take];omega
      have HR:=Jh (XT (b:=b) ⟨hn64,by rw[heq];exact List.take_prefix _ _⟩)
      rw[hd]
      clear heq hd
      have HLN:=Lib.hid hln
      clear hln
      go_wp2_with fail
      go_ret3
      exact ⟨by rw[HR.out,HLN.out];simp,HB5.out⟩
     ·have hd:decide (Z5 nn=b.take (k+1))=false:=decide_eq_false heq
      have HR:=Jh (Yq (b:=b) (fun n hn=>heq (by
       obtain ⟨g1,g2⟩:=HGO.out.only HC.out HCL.out hn
       have g3:=HNN.out
       rw[g2,Nat.mod_eq_of_lt hn.1] at g3
       rw[←g3]
       exact g1)))
      rw[hd]
      clear heq hd
      go_wp2_with fail
      go_ret3
      exact ⟨by rw[HR.out];rfl,HB5.out⟩
    ·have hcl1:¬ (c.toNat:Int)<128:=by omega
     have HGO2:=Jh (HGO.out.succ HC.out (by omega))
     clear hc128
     go_wp2_with fail
     go_roundg (10 - (k+1))
     case measure=>rw[HG.out];omega
     case rel=>exact ⟨k+1,rfl,by omega,by omega,by first|rw[HNN.out]|(simp;exact HNN.out.symm),by simp,HGO2,HB⟩
   ·have hk2:¬ (k:Int)<10:=by omega
    have HR:=Jh (Yq (fun n=>HGO.out.over (by omega)))
    clear hlt
    go_wp2_with fail
    go_ret3
    exact ⟨by rw[HR.out];rfl,HB.out⟩
  ·have hk1:¬ (k:Int)<(b.length:Int):=by omega
   have HR:=Jh (Yq (fun n=>HGO.out.over (by omega)))
   clear hlt
   go_wp2_with fail
   go_ret3
   exact ⟨by rw[HR.out];rfl,HB.out⟩
theorem UC (v:Value) (l:List Bool) (w:World) (h:Z0 btc 1 w v l) (hn:l.length≤1000000000000):Calls Tryz.prog 158 #[v] w fun e w'=>Xv w (Yu l) e w':=by
 obtain ⟨a,cap,rfl,hcap,hmax,-⟩:=id h
 unfold maxLen at hmax
 have HH:=Lib.hid h
 have HL:=Jh (WA (l:=l) (by omega))
 clear h
 go_enter Tryz.func158,Tryz.ntmps158
 go_wp2_with fail
 go_loopg [3,4,5] (2*l.length+(if l.head?=some false then 0 else 1)) (fun g ov vv iv wr=>∃ (i:Nat) (s:Sl) (out:List UInt8) (v:Bool),g=2*(l.drop i).length+(if (l.drop i).head?=some v then 0 else 1)∧ov=.slice s.a s.n s.cap∧vv=.bool v∧iv=.int .i64 i∧i≤l.length∧Hid (Yu l=out++ZO v (l.drop i))∧Hid (Own u8c 1 5 w.heap.size wr (.slice s.a s.n s.cap) out∧Below w.heap.size w wr))
 case atStart=>exact ⟨0,⟨none,0,0⟩,[],false,rfl,rfl,rfl,rfl,Nat.zero_le _,Lib.hid rfl,Lib.hid ⟨Own.nil,Below.refl _ _⟩⟩
 case round =>
  obtain ⟨i,⟨sa,sn,sc⟩,out,v,hg,rfl,rfl,rfl,hil,HE,HU⟩:=hrel
  dsimp only at HU ⊢
  have HG:=Lib.hid hg
  clear hg
  by_cases hlt:i<l.length
  ·have hi1:(i:Int)<(l.length:Int):=by omega
   go_wp2_with fail
   go_loopg [6] (l.length - i) (fun g kv wx=>∃ k:Nat,g=l.length - k∧kv=.int .i64 k∧i≤k∧k≤l.length∧Hid (k - i≤Za v (l.drop i))∧wx=wr)
   case atStart=>exact ⟨i,rfl,rfl,Nat.le_refl _,by omega,Jh (by omega),rfl⟩
   case round =>
    obtain ⟨k,hg2,rfl,hik,hkl,HC,rfl⟩:=hrel
    have HG2:=Lib.hid hg2
    clear hg2
    by_cases hk:k<l.length
    ·have hk1:(k:Int)<(l.length:Int):=by omega
     obtain ⟨x,hx⟩:∃ x,l[k]?=some x:=⟨_,List.getElem?_eq_getElem (by omega)⟩
     obtain ⟨bb,o,rfl,c0⟩:=(HH.out.below HU.out.2).at1 hx rfl
     have HX:=Jh (Ru hik HC.out hx)
     clear hx
     by_cases hxv:x=v
     ·have HC2:=Jh (HX.out.1 hxv)
      clear HX
      subst hxv
      have hs1:(x == x)=true:=by simp
      go_wp2_with fail
      go_roundg (l.length - (k+1))
      case measure=>rw[HG2.out];omega
      case rel=>exact ⟨k+1,rfl,by simp,by omega,by omega,HC2,rfl⟩
     ·have HM:=Jh (HX.out.2 hxv)
      have hs1:(x == v)=false:=by simpa using hxv
      clear hxv
      obtain ⟨m,hm⟩:∃ m,m=k - i:=⟨_,rfl⟩
      have hsub:((k:Nat):Int) - (i:Int)=(m:Int):=by omega
      have hm64:m<18446744073709551616:=by omega
      have hmm:m=Za v (l.drop i):=hm.trans HM.out
      have hne:l.drop i≠[]:=fun e=>by have:=congrArg List.length e;rw[List.length_drop,List.length_nil] at this;omega
      have hdd:(l.drop i).drop (Za v (l.drop i))=l.drop k:=by rw[List.drop_drop,←hmm];congr 1;omega
      have hE2:Yu l=(out++Z5 m)++ZO (!v) (l.drop k):=by rw[HE.out,YY hne,←hmm,List.append_assoc,hmm,hdd]
      have HE2:=Lib.hid hE2
      have hms:=VX v hne
      rw[hdd] at hms
      have HMS:=Lib.hid hms
      have hlen:out.length+(Z5 m).length≤140737488355328:=by have h1:=HL.out;rw[hE2,List.length_append,List.length_append] at h1;omega
      have HLEN:=Lib.hid hlen
      clear hm hmm hne hdd hE2 hms hlen
      go_wp2_with fail
      refine (V6 m _ hm64).mono ?_
      rintro e w5 ⟨v5,rfl,hown5,b5⟩
      obtain ⟨⟨ta,tn,tc⟩,w6,hr6,own6,b6,hsz6⟩:=ZF (HU.out.1.below1 b5) (HU.out.2.trans (b5.mono HU.out.2.size)) (hown5.slice Z7) (Nat.le_trans HU.out.2.size b5.size) HLEN.out
      have HN:=Jh (And.intro own6 b6)
      clear own6 b6 hown5 b5 hsub
      go_wp2_with (at_builtin;refine Lib.wpList_append_run _ rfl _ _ _ _ rfl _ _ rfl rfl _ _ hr6 ?_)
      go_roundg (2*(l.drop k).length+(if (l.drop k).head?=some (!v) then 0 else 1))
      case measure=>rw[HG.out];exact HMS.out
      case rel=>exact ⟨k,⟨ta,tn,tc⟩,_,!v,rfl,rfl,rfl,rfl,by omega,HE2,HN⟩
    ·obtain rfl:k=l.length:=by omega
     have hk1:¬ (l.length:Int)<(l.length:Int):=by omega
     have HM:=Jh (Sd (by omega) HC.out)
     clear hk
     obtain ⟨m,hm⟩:∃ m,m=l.length - i:=⟨_,rfl⟩
     have hsub:((l.length:Nat):Int) - (i:Int)=(m:Int):=by omega
     have hm64:m<18446744073709551616:=by omega
     have hmm:m=Za v (l.drop i):=hm.trans HM.out
     have hne:l.drop i≠[]:=fun e=>by have:=congrArg List.length e;rw[List.length_drop,List.length_nil] at this;omega
     have hdd:(l.drop i).drop (Za v (l.drop i))=l.drop l.length:=by rw[List.drop_drop,←hmm];congr 1;omega
     have hE2:Yu l=(out++Z5 m)++ZO (!v) (l.drop l.length):=by rw[HE.out,YY hne,←hmm,List.append_assoc,hmm,hdd]
     have HE2:=Lib.hid hE2
     have hms:=VX v hne
     rw[hdd] at hms
     have HMS:=Lib.hid hms
     have hlen:out.length+(Z5 m).length≤140737488355328:=by have h1:=HL.out;rw[hE2,List.length_append,List.length_append] at h1;omega
     have HLEN:=Lib.hid hlen
     clear hm hmm hne hdd hE2 hms hlen
     go_wp2_with fail
     refine (V6 m _ hm64).mono ?_
     rintro e w5 ⟨v5,rfl,hown5,b5⟩
     obtain ⟨⟨ta,tn,tc⟩,w6,hr6,own6,b6,hsz6⟩:=ZF (HU.out.1.below1 b5) (HU.out.2.trans (b5.mono HU.out.2.size)) (hown5.slice Z7) (Nat.le_trans HU.out.2.size b5.size) HLEN.out
     have HN:=Jh (And.intro own6 b6)
     clear own6 b6 hown5 b5 hsub
     go_wp2_with (at_builtin;refine Lib.wpList_append_run _ rfl _ _ _ _ rfl _ _ rfl rfl _ _ hr6 ?_)
     go_roundg (2*(l.drop l.length).length+(if (l.drop l.length).head?=some (!v) then 0 else 1))
     case measure=>rw[HG.out];exact HMS.out
     case rel=>exact ⟨l.length,⟨ta,tn,tc⟩,_,!v,rfl,rfl,rfl,rfl,by omega,HE2,HN⟩
  ·obtain rfl:i=l.length:=by omega
   have hi1:¬ (l.length:Int)<(l.length:Int):=by omega
   have HR:Hid (Yu l=out):=Jh (by rw[HE.out,List.drop_length,Xt,List.append_nil])
   clear hlt
   go_wp2_with fail
   go_ret
   exact ⟨_,rfl,by rw[HR.out];exact HU.out.1,HU.out.2⟩
end Go.Proofs.YtgmdimbiipemhaaGreatDoor
namespace Go.Proofs.YtgmdimbiipemhaaGreatDoor
def TB (b:List UInt8) (n:Nat) (l:List Bool) (at':Nat) (v:Bool):Prop :=
 Xl n false true b=(Xl (n - l.length) v (decide (at'=0)) (b.drop at')).map fun p=>(l++p.1,at'+p.2)
theorem TB.zero (b:List UInt8) (n:Nat):TB b n [] 0 false:=by
 unfold TB
 simp
theorem TB.step {b:List UInt8} {n:Nat} {l:List Bool} {p k:Nat} {v:Bool} (h:TB b n l p v) (hl:l.length<n) (hk:ZA (b.drop p)=some k) (h0:¬ (k=0∧p≠0)) (hkn:k≤n - l.length) :
  TB b n (l++List.replicate k v) (p+(Z5 k).length) (!v):=by
 unfold TB at h ⊢
 have hp:0<(Z5 k).length:=List.length_pos_iff.2 (Wl k)
 have e:decide (p+(Z5 k).length=0)=false:=decide_eq_false (by omega)
 rw[h,Z1k (by omega) hk (by
  rintro (⟨h1,h2⟩|h1)
  ·exact h0 ⟨h1,of_decide_eq_false h2⟩
  ·omega),e,List.length_append,List.length_replicate,List.drop_drop,Option.map_map,Nat.sub_add_eq]
 congr 1
 funext q
 simp[Nat.add_assoc]
theorem TB.bad {b:List UInt8} {n:Nat} {l:List Bool} {p:Nat} {v:Bool} (h:TB b n l p v) (hl:l.length<n) (hb:ZA (b.drop p)=none∨∃ k,ZA (b.drop p)=some k∧((k=0∧p≠0)∨n - l.length<k)):Xl n false true b=none:=by
 unfold TB at h
 rw[h]
 rcases hb with hb|⟨k,hk,hb⟩
 ·rw[Z24 (by omega) hb];rfl
 ·rw[Z1r (by omega) hk (by
   rcases hb with ⟨h1,h2⟩|h1
   ·exact .inl ⟨h1,decide_eq_false h2⟩
   ·exact .inr h1)]
  rfl
theorem TB.done {b:List UInt8} {n:Nat} {l:List Bool} {p:Nat} {v:Bool} (h:TB b n l p v) (hl:l.length=n):Xl n false true b=some (l,p):=by
 unfold TB at h
 rw[h,hl,Nat.sub_self,Z1E]
 simp
theorem TB.puts {b:List UInt8} {n:Nat} {l:List Bool} {p:Nat} {v:Bool} (h:TB b n l p v) (hl:l.length=n) (hn:n<18446744073709551616):Yu l=b.take p∧p≤b.length:=by
 obtain ⟨_,_,h1,h2⟩:=(QM n hn false true b l p).1 (h.done hl)
 unfold Yu
 have hle:=h1.length_le
 obtain ⟨t,rfl⟩:=h1
 refine ⟨?_,by omega⟩
 rw[h2,List.take_left]
def TR (b:List UInt8) (n:Nat) (l:List Int) (p:Nat):Prop :=
 YT n none b=(YT (n - l.length) l.getLast? (b.drop p)).map fun q=>(l++q.1,p+q.2)
theorem TR.zero (b:List UInt8) (n:Nat):TR b n [] 0:=by
 unfold TR
 simp
theorem Z5o (l:List Int) (k:Nat) (x:Int) (hk:k≠0):(l++List.replicate k x).getLast?=some x:=by
 obtain ⟨j,rfl⟩:∃ j,k=j+1:=⟨k - 1,by omega⟩
 rw[List.replicate_succ',←List.append_assoc,List.getLast?_concat]
theorem TR.step {b:List UInt8} {n:Nat} {l:List Int} {p k v:Nat} (h:TR b n l p) (hk:ZA (b.drop p)=some k) (hv:ZA (b.drop (p+(Z5 k).length))=some v) (h0:k≠0) (hkn:k≤n - l.length) (hp:l.getLast?≠some (YL v)) :
  TR b n (l++List.replicate k (YL v)) (p+(Z5 k).length+(Z5 v).length):=by
 unfold TR at h ⊢
 rw[h,SY hk (by rw[List.drop_drop];exact hv) h0 hkn hp,Z5o _ _ _ h0,List.length_append,List.length_replicate,List.drop_drop,Option.map_map,Nat.sub_add_eq,Nat.add_assoc]
 congr 1
 funext q
 simp[Nat.add_assoc]
theorem TR.bad {b:List UInt8} {n:Nat} {l:List Int} {p:Nat} (h:TR b n l p) (hl:l.length<n) (hb:ZA (b.drop p)=none∨∃ k,ZA (b.drop p)=some k∧(ZA (b.drop (p+(Z5 k).length))=none∨∃ v,ZA (b.drop (p+(Z5 k).length))=some v∧(k=0∨n - l.length<k∨l.getLast?=some (YL v)))):YT n none b=none:=by
 unfold TR at h
 rw[h]
 rcases hb with hb|⟨k,hk,hb|⟨v,hv,hb⟩⟩
 ·rw[Z1i (by omega) hb];rfl
 ·rw[Z1K (by omega) hk (by rw[List.drop_drop];exact hb)];rfl
 ·rw[Z1B (by omega) hk (by rw[List.drop_drop];exact hv) hb];rfl
theorem TR.done {b:List UInt8} {n:Nat} {l:List Int} {p:Nat} (h:TR b n l p) (hl:l.length=n):YT n none b=some (l,p):=by
 unfold TR at h
 rw[h,hl,Nat.sub_self,Z26]
 simp
def TRd (b:List UInt8) (n:Nat) (l:List Int) (p:Nat):Prop:=(TR b n l p∨YT n none b=none)∧∀ x∈l,Yf x<18446744073709551616
theorem TRd.zero (b:List UInt8) (n:Nat):TRd b n [] 0:=⟨.inl (TR.zero b n),fun x hx=>by simp at hx⟩
theorem TRd.step {b:List UInt8} {n:Nat} {l:List Int} {p k v:Nat} (h:TRd b n l p) (hl:l.length<n) (hk:ZA (b.drop p)=some k) (hv:ZA (b.drop (p+(Z5 k).length))=some v) (h0:k≠0) (hkn:k≤n - l.length) :
  TRd b n (l++List.replicate k (YL v)) (p+(Z5 k).length+(Z5 v).length):=by
 refine ⟨?_,fun x hx=>?_⟩
 ·rcases h.1 with h1|h1
  ·by_cases hp:l.getLast?=some (YL v)
   ·exact .inr (h1.bad hl (.inr ⟨k,hk,.inr ⟨v,hv,.inr (.inr hp)⟩⟩))
   ·exact .inl (h1.step hk hv h0 hkn hp)
  ·exact .inr h1
 ·rcases List.mem_append.1 hx with hx|hx
  ·exact h.2 x hx
  ·rw[(List.mem_replicate.1 hx).2,Z19];exact (Zz.1 hv).1
theorem TRd.bad {b:List UInt8} {n:Nat} {l:List Int} {p:Nat} (h:TRd b n l p) (hl:l.length<n) (hb:ZA (b.drop p)=none∨∃ k,ZA (b.drop p)=some k∧(ZA (b.drop (p+(Z5 k).length))=none∨∃ v,ZA (b.drop (p+(Z5 k).length))=some v∧(k=0∨n - l.length<k))):YT n none b=none:=by
 rcases h.1 with h1|h1
 ·refine h1.bad hl ?_
  rcases hb with hb|⟨k,hk,hb|⟨v,hv,hb⟩⟩
  ·exact .inl hb
  ·exact .inr ⟨k,hk,.inl hb⟩
  ·exact .inr ⟨k,hk,.inr ⟨v,hv,hb.elim .inl (fun h=>.inr (.inl h))⟩⟩
 ·exact h1
theorem TRd.good {b:List UInt8} {n:Nat} {l:List Int} {p:Nat} (h:TRd b n l p) (hl:l.length=n) (hn:n<18446744073709551616) (hp:p≤b.length) (hr:Zc l=b.take p):YT n none b=some (l,p) :=
 (Ua n hn none b l p).2 (.inl ⟨hl,fun h=>absurd rfl h,h.2,by rw[hr];exact List.take_prefix _ _,by rw[hr,List.length_take];omega⟩)
theorem TRd.wrong {b:List UInt8} {n:Nat} {l:List Int} {p:Nat} (h:TRd b n l p) (hl:l.length=n) (hn:n<18446744073709551616) (hr:Zc l≠b.take p):YT n none b=none:=by
 rcases h.1 with h1|h1
 ·have e:=h1.done hl
  rcases (Ua n hn none b l p).1 e with ⟨_,_,_,a4,a5⟩|⟨_,rfl,rfl⟩
  ·exact absurd (by obtain ⟨t,rfl⟩:=a4;rw[a5,List.take_left]) hr
  ·exact absurd (by simp[Zc]) hr
 ·exact h1
end Go.Proofs.YtgmdimbiipemhaaGreatDoor
