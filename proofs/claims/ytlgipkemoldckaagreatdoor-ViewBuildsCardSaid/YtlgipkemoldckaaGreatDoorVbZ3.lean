/- ViewBuilds, part 3 of what the proof leans on (made short by a program). -/
import Derived.Test.YtlgipkemoldckaaGreatDoorVbZ2
set_option linter.unusedSimpArgs false
set_option linter.unusedVariables false
set_option linter.unusedSectionVars false
set_option maxRecDepth 20000
set_option maxHeartbeats 30000000
namespace Go.Proofs.YtlgipkemoldckaaGreatDoor
open Go.RowKit
structure Wr where
 at_:St
 value:ByteArray
 deriving DecidableEq
def Wr.val (x:Wr):Value:=.agg #[.int .i64 x.at_.n,.int .i64 x.at_.r,.string x.value]
structure X3 (w:World) (r mv ma:Nat) (vs:List (Pl × Wr)) (ats:List (St × Bool)):Prop where
 c0:w.cell? ⟨r,0,none⟩=some (.map (some mv))
 c1:w.cell? ⟨r,1,none⟩=some (.map (some ma))
 hv:Z6 Pl.val Wr.val w mv vs
 ha:Z6 St.val Value.bool w ma ats
 ne:mv≠ma
theorem UC (w:World):(zeroValue 4).run Tryz.prog w=.ok (.bool false) w:=by kernel_rfl
theorem Wy (w:World):(zeroValue 97).run Tryz.prog w=.ok (.agg #[.int .i64 0,.int .i64 0,.string ⟨#[]⟩]) w:=by kernel_rfl
theorem VS:Tryz.prog.underlying 91=some (.map 23 4):=by kernel_rfl
theorem WL:Tryz.prog.underlying 90=some (.map 95 97):=by kernel_rfl
theorem Z2W (w:World):Calls Tryz.prog 24 #[] w fun e w' =>
  e=.returned (.pointer (some ⟨w.heap.size+2,0,none⟩))∧w'=((w.alloc (.map #[] 0)).alloc (.map #[] 0)).alloc (.cells #[.map (some w.heap.size),.map (some (w.heap.size+1))] 93):=by
 have hmm:=@run_makeMap Tryz.prog
 go_enter Tryz.func24,Tryz.ntmps24
 go_wp2
 go_ret
 exact ⟨rfl,rfl⟩
theorem Qa (w:World) (b:Nat) (i:Option Nat) (k v:Value):Zn w.drew b i k v=(Zn w b i k v).drew:=by
 unfold Zn
 have h:w.drew.heap=w.heap:=rfl
 rw[h]
 cases hb:w.heap[b]? with
 | none=>rfl
 | some o=>cases o <;> first|rfl|(cases i <;> rfl)
theorem SZ (w:World) (b:Nat) (i:Option Nat) (k v:Value) (a:Addr):(Zn w b i k v).frozen? a=w.frozen? a:=by
 by_cases h:a.block=b
 ·subst h
  unfold Zn
  split
  ·rename_i es clock hb
   split <;> (simp only[World.frozen?,Array.getElem?_setIfInBounds,if_true,hb];split <;> simp_all)
  ·rfl
 ·exact World.frozen?_of_block (w:=w) (XR w b i k v _ h)
attribute [local go_sem] Z6.alloc Z6.drew Z6.setCell
theorem Z3h (r mv ma:Nat) (vs:List (Pl × Wr)) (ats:List (St × Bool)) (an ar bn br:Int) (nm vl:ByteArray) (w:World) (h:X3 w r mv ma vs ats) (hr:Z7 ⟨an,ar⟩=false) :
  Calls Tryz.prog 25 #[.pointer (some ⟨r,0,none⟩),.agg #[.int .i64 an,.int .i64 ar],.agg #[.int .i64 bn,.int .i64 br],.string nm,.string vl] w
   fun e w'=>e=.returned (.int .i64 1)∧Below w.heap.size w w':=by
 clear h
 go_enter Tryz.func25,Tryz.ntmps25
 go_wp2_with (go_at_call 41;refine (WW _ _ _).mono ?_;rintro e w' ⟨rfl,hb⟩)
 go_ret
 exact ⟨rfl,((((Below.refl _ _).alloc (Nat.le_refl _) _).alloc (by simp) _).trans (hb.mono (by simp <;> omega)))⟩
theorem Z1B (r mv ma:Nat) (vs:List (Pl × Wr)) (ats:List (St × Bool)) (an ar bn br:Int) (nm vl:ByteArray) (w:World) (h:X3 w r mv ma vs ats) (hr:Z7 ⟨an,ar⟩=true)
  (ht:(Z5 ats ⟨an,ar⟩).getD false=true) :
  Calls Tryz.prog 25 #[.pointer (some ⟨r,0,none⟩),.agg #[.int .i64 an,.int .i64 ar],.agg #[.int .i64 bn,.int .i64 br],.string nm,.string vl] w
   fun e w'=>e=.returned (.int .i64 151)∧Below w.heap.size w w':=by
 obtain ⟨c0,c1,h2,h3,h4⟩:=h
 have hl:∀ W,Z6 St.val Value.bool W ma ats→(Instr.lookup 91 (.map (some ma)) (.agg #[.int .i64 an,.int .i64 ar]) false).run Tryz.prog W=.ok (.bool true) W:=fun W hW=>by
  have:=hW.lookup ZL VS UC ⟨an,ar⟩
  simp only[St.val] at this
  rw[this]
  cases hg:Z5 ats ⟨an,ar⟩ with
  | none=>rw[hg] at ht;cases ht
  | some x=>rw[hg] at ht;simp at ht;subst ht;rfl
 clear ht
 go_enter Tryz.func25,Tryz.ntmps25
 go_wp2_with (go_at_call 41;refine (WW _ _ _).mono ?_;rintro e w' ⟨rfl,hb⟩)
 have hm:Z6 St.val Value.bool w' ma ats:=((h3.alloc _).alloc _).below hb
 have k1:=Z0 hb (Z1 (Z1 c1 _) _)
 have k2:w'.cell? ⟨w.heap.size,0,none⟩=some (.int .i64 an):=Z0 hb (by go_simp)
 have k3:w'.cell? ⟨w.heap.size,1,none⟩=some (.int .i64 ar):=Z0 hb (by go_simp)
 go_region_held3 (fun W=>W.cell? ⟨r,1,none⟩=some (.map (some ma))∧W.cell? ⟨w.heap.size,0,none⟩=some (.int .i64 an)∧W.cell? ⟨w.heap.size,1,none⟩=some (.int .i64 ar)∧Z6 St.val Value.bool W ma ats) (simp[*,Z6.drew]) (fail)
 go_wp2
 go_ret
 exact ⟨rfl,((((Below.refl _ _).alloc (Nat.le_refl _) _).alloc (by simp) _).trans (hb.mono (by simp <;> omega))).drew⟩
attribute [local go_sem] ZP SZ Wb Qa
def XL (x:Option Wr):St:=match x with|some y=>y.at_|none=>⟨0,0⟩
theorem Z26 (r mv ma:Nat) (vs:List (Pl × Wr)) (ats:List (St × Bool)) (an ar bn br:Int) (nm vl:ByteArray) (w:World) (h:X3 w r mv ma vs ats) (hr:Z7 ⟨an,ar⟩=true)
  (ht:(Z5 ats ⟨an,ar⟩).getD false=false) (hc:Yc (XL (Z5 vs ⟨⟨bn,br⟩,nm⟩)) ⟨an,ar⟩<0) :
  Calls Tryz.prog 25 #[.pointer (some ⟨r,0,none⟩),.agg #[.int .i64 an,.int .i64 ar],.agg #[.int .i64 bn,.int .i64 br],.string nm,.string vl] w
   fun e w'=>e=.returned (.int .i64 0)∧X3 w' r mv ma (Zx vs ⟨⟨bn,br⟩,nm⟩ ⟨⟨an,ar⟩,vl⟩) (Zx ats ⟨an,ar⟩ true)∧Ext (fun k=>k=mv∨k=ma) w w':=by
 obtain ⟨c0,c1,h2,h3,h4⟩:=h
 have hl:∀ W,Z6 St.val Value.bool W ma ats→(Instr.lookup 91 (.map (some ma)) (.agg #[.int .i64 an,.int .i64 ar]) false).run Tryz.prog W=.ok (.bool false) W:=fun W hW=>by
  have:=hW.lookup ZL VS UC ⟨an,ar⟩
  simp only[St.val] at this
  rw[this]
  cases hg:Z5 ats ⟨an,ar⟩ with
  | none=>rfl
  | some x=>rw[hg] at ht;simp at ht;subst ht;rfl
 clear ht
 have hu:∀ W,Z6 St.val Value.bool W ma ats→(Instr.mapUpdate 91 (.map (some ma)) (.agg #[.int .i64 an,.int .i64 ar]) (.bool true)).run Tryz.prog W=.ok () (Zn W ma (Zp ats ⟨an,ar⟩) (.agg #[.int .i64 an,.int .i64 ar]) (.bool true)) :=
  fun W hW=>hW.update ZL VS ⟨an,ar⟩ (.bool true)
 obtain ⟨a1,a2,hat⟩:∃ a1 a2,XL (Z5 vs ⟨⟨bn,br⟩,nm⟩)=⟨a1,a2⟩:=⟨_,_,rfl⟩
 rw[hat] at hc
 obtain ⟨x3,hl2⟩:∃ x3,∀ W,Z6 Pl.val Wr.val W mv vs→(Instr.lookup 90 (.map (some mv)) (.agg #[.int .i64 bn,.int .i64 br,.string nm]) false).run Tryz.prog W=.ok (.agg #[.int .i64 a1,.int .i64 a2,.string x3]) W:=by
  cases hg:Z5 vs ⟨⟨bn,br⟩,nm⟩ with
  | none =>
   rw[hg] at hat
   cases hat
   refine ⟨⟨#[]⟩,fun W hW=>?_⟩
   have:=hW.lookup WZ WL Wy ⟨⟨bn,br⟩,nm⟩
   rw[hg] at this
   exact this
  | some x =>
   rw[hg] at hat
   obtain ⟨⟨y1,y2⟩,y3⟩:=x
   cases hat
   refine ⟨y3,fun W hW=>?_⟩
   have:=hW.lookup WZ WL Wy ⟨⟨bn,br⟩,nm⟩
   rw[hg] at this
   exact this
 clear hat
 have hu2:∀ W,Z6 Pl.val Wr.val W mv vs→(Instr.mapUpdate 90 (.map (some mv)) (.agg #[.int .i64 bn,.int .i64 br,.string nm]) (.agg #[.int .i64 an,.int .i64 ar,.string vl])).run Tryz.prog W=.ok () (Zn W mv (Zp vs ⟨⟨bn,br⟩,nm⟩) (.agg #[.int .i64 bn,.int .i64 br,.string nm]) (.agg #[.int .i64 an,.int .i64 ar,.string vl])) :=
  fun W hW=>hW.update WZ WL ⟨⟨bn,br⟩,nm⟩ _
 have hfd:∀ W,(Instr.field 97 (.agg #[.int .i64 a1,.int .i64 a2,.string x3]) 0).run Tryz.prog W=.ok (.agg #[.int .i64 a1,.int .i64 a2]) W:=fun _=>by kernel_rfl
 go_enter Tryz.func25,Tryz.ntmps25
 go_wp2_with (go_at_call 41;refine (WW _ _ _).mono ?_;rintro e w' ⟨rfl,hb⟩)
 have hm:Z6 St.val Value.bool w' ma ats:=((h3.alloc _).alloc _).below hb
 have hm2:Z6 Pl.val Wr.val w' mv vs:=((h2.alloc _).alloc _).below hb
 have k0:=Z0 hb (Z1 (Z1 c0 _) _)
 have k1:=Z0 hb (Z1 (Z1 c1 _) _)
 have k2:w'.cell? ⟨w.heap.size,0,none⟩=some (.int .i64 an):=Z0 hb (by go_simp)
 have k3:w'.cell? ⟨w.heap.size,1,none⟩=some (.int .i64 ar):=Z0 hb (by go_simp)
 have k4:w'.cell? ⟨w.heap.size+1,0,none⟩=some (.int .i64 bn):=Z0 hb (by go_simp)
 have k5:w'.cell? ⟨w.heap.size+1,1,none⟩=some (.int .i64 br):=Z0 hb (by go_simp)
 have hx:Ext (fun k=>k=mv∨k=ma) w w':=((((Ext.refl _ _).alloc _).alloc _).then_below hb)
 have z1:=Zj k0
 have z2:=Zj k4
 clear hb
 go_region_held3 (fun W=>W.cell? ⟨r,1,none⟩=some (.map (some ma))∧W.cell? ⟨w.heap.size,0,none⟩=some (.int .i64 an)∧W.cell? ⟨w.heap.size,1,none⟩=some (.int .i64 ar)∧Z6 St.val Value.bool W ma ats) (simp[*,Z6.drew]) (fail)
 go_wp2
 go_region_held3 (fun W=>W.cell? ⟨r,1,none⟩=some (.map (some ma))∧W.cell? ⟨w.heap.size,0,none⟩=some (.int .i64 an)∧W.cell? ⟨w.heap.size,1,none⟩=some (.int .i64 ar)) (simp[*,Z6.drew,ZP]) (fail)
 go_wp2
 have q1:Z6 Pl.val Wr.val (Zn w' ma (Zp ats ⟨an,ar⟩) (.agg #[.int .i64 an,.int .i64 ar]) (.bool true)) mv vs:=hm2.put_other _ _ _ h4
 have q2:Z6 St.val Value.bool (Zn w' ma (Zp ats ⟨an,ar⟩) (.agg #[.int .i64 an,.int .i64 ar]) (.bool true)) ma (Zx ats ⟨an,ar⟩ true):=hm.put ⟨an,ar⟩ true
 have q3:=hx.mapPut (b:=ma) (.inl (.inr rfl)) (Zp ats ⟨an,ar⟩) (.agg #[.int .i64 an,.int .i64 ar]) (.bool true)
 have j0:=(ZP w' ma (Zp ats ⟨an,ar⟩) (.agg #[.int .i64 an,.int .i64 ar]) (.bool true) ⟨r,0,none⟩).trans k0
 have j1:=(ZP w' ma (Zp ats ⟨an,ar⟩) (.agg #[.int .i64 an,.int .i64 ar]) (.bool true) ⟨r,1,none⟩).trans k1
 have j2:=(ZP w' ma (Zp ats ⟨an,ar⟩) (.agg #[.int .i64 an,.int .i64 ar]) (.bool true) ⟨w.heap.size,0,none⟩).trans k2
 have j3:=(ZP w' ma (Zp ats ⟨an,ar⟩) (.agg #[.int .i64 an,.int .i64 ar]) (.bool true) ⟨w.heap.size,1,none⟩).trans k3
 rw[←Wb w' ma (Zp ats ⟨an,ar⟩) (.agg #[.int .i64 an,.int .i64 ar]) (.bool true)]
 clear hm hm2 k0 k1 k2 k3 k4 k5 hx hl hu z1 z2
 generalize Zn w' ma (Zp ats ⟨an,ar⟩) (.agg #[.int .i64 an,.int .i64 ar]) (.bool true)=w2 at *
 have i4:(w2.alloc (.cells #[.int .i64 bn,.int .i64 br,.string nm] 95)).cell? ⟨w2.heap.size,0,none⟩=some (.int .i64 bn):=by go_simp
 have i5:(w2.alloc (.cells #[.int .i64 bn,.int .i64 br,.string nm] 95)).cell? ⟨w2.heap.size,1,none⟩=some (.int .i64 br):=by go_simp
 have i6:(w2.alloc (.cells #[.int .i64 bn,.int .i64 br,.string nm] 95)).cell? ⟨w2.heap.size,2,none⟩=some (.string nm):=by go_simp
 have i0:=Z1 j0 (.cells #[.int .i64 bn,.int .i64 br,.string nm] 95)
 have i1:=Z1 j1 (.cells #[.int .i64 bn,.int .i64 br,.string nm] 95)
 have i2:=Z1 j2 (.cells #[.int .i64 bn,.int .i64 br,.string nm] 95)
 have i3:=Z1 j3 (.cells #[.int .i64 bn,.int .i64 br,.string nm] 95)
 have p1:=q1.alloc (.cells #[.int .i64 bn,.int .i64 br,.string nm] 95)
 have p2:=q2.alloc (.cells #[.int .i64 bn,.int .i64 br,.string nm] 95)
 have p3:=q3.alloc (.cells #[.int .i64 bn,.int .i64 br,.string nm] 95)
 clear j0 j1 j2 j3 q1 q2 q3
 generalize w2.heap.size=N2 at *
 generalize w2.alloc (.cells #[.int .i64 bn,.int .i64 br,.string nm] 95)=w3 at *
 go_region_held3 (fun W=>W.cell? ⟨r,0,none⟩=some (.map (some mv))∧W.cell? ⟨w.heap.size,0,none⟩=some (.int .i64 an)∧W.cell? ⟨w.heap.size,1,none⟩=some (.int .i64 ar)∧W.cell? ⟨N2,0,none⟩=some (.int .i64 bn)∧W.cell? ⟨N2,1,none⟩=some (.int .i64 br)∧W.cell? ⟨N2,2,none⟩=some (.string nm)∧Z6 Pl.val Wr.val W mv vs) (first|exact ⟨i0,i2,i3,i4,i5,i6,p1⟩|exact ⟨Z0 hb4 i0,Z0 hb4 i2,Z0 hb4 i3,Z0 hb4 i4,Z0 hb4 i5,Z0 hb4 i6,p1.below hb4⟩) ((go_at_call 42;refine (VP _ _ _ _ _).mono ?_;rintro e w4 ⟨rfl,hb4⟩;simp only[ZR,ZJ] at hb4))
 go_wp2
 replace i0:=Z0 hb4 i0
 replace i1:=Z0 hb4 i1
 replace i2:=Z0 hb4 i2
 replace i3:=Z0 hb4 i3
 replace i4:=Z0 hb4 i4
 replace i5:=Z0 hb4 i5
 replace i6:=Z0 hb4 i6
 replace p1:=p1.below hb4
 replace p2:=p2.below hb4
 replace p3:=p3.then_below hb4
 clear hb4 hl2 hfd
 go_region_held3 (fun W=>W.cell? ⟨r,0,none⟩=some (.map (some mv))∧W.cell? ⟨w.heap.size,0,none⟩=some (.int .i64 an)∧W.cell? ⟨w.heap.size,1,none⟩=some (.int .i64 ar)∧W.cell? ⟨N2,0,none⟩=some (.int .i64 bn)∧W.cell? ⟨N2,1,none⟩=some (.int .i64 br)∧W.cell? ⟨N2,2,none⟩=some (.string nm)) (first|exact ⟨i0,i2,i3,i4,i5,i6⟩|simp[*,ZP]) (fail)
 go_wp2
 go_ret
 exact ⟨rfl,⟨(ZP _ _ _ _ _ _).trans i0,(ZP _ _ _ _ _ _).trans i1,p1.put ⟨⟨bn,br⟩,nm⟩ ⟨⟨an,ar⟩,vl⟩,p2.put_other _ _ _ (Ne.symm h4),h4⟩,(p3.mapPut (.inl (.inl rfl)) _ _ _).drew⟩
theorem Z3b (r mv ma:Nat) (vs:List (Pl × Wr)) (ats:List (St × Bool)) (an ar bn br:Int) (nm vl:ByteArray) (w:World) (h:X3 w r mv ma vs ats) (hr:Z7 ⟨an,ar⟩=true)
  (ht:(Z5 ats ⟨an,ar⟩).getD false=false) (hc:decide (Yc (XL (Z5 vs ⟨⟨bn,br⟩,nm⟩)) ⟨an,ar⟩<0)=false) :
  Calls Tryz.prog 25 #[.pointer (some ⟨r,0,none⟩),.agg #[.int .i64 an,.int .i64 ar],.agg #[.int .i64 bn,.int .i64 br],.string nm,.string vl] w
   fun e w'=>e=.returned (.int .i64 0)∧X3 w' r mv ma vs (Zx ats ⟨an,ar⟩ true)∧Ext (fun k=>k=mv∨k=ma) w w':=by
 obtain ⟨c0,c1,h2,h3,h4⟩:=h
 have hl:∀ W,Z6 St.val Value.bool W ma ats→(Instr.lookup 91 (.map (some ma)) (.agg #[.int .i64 an,.int .i64 ar]) false).run Tryz.prog W=.ok (.bool false) W:=fun W hW=>by
  have:=hW.lookup ZL VS UC ⟨an,ar⟩
  simp only[St.val] at this
  rw[this]
  cases hg:Z5 ats ⟨an,ar⟩ with
  | none=>rfl
  | some x=>rw[hg] at ht;simp at ht;subst ht;rfl
 clear ht
 have hu:∀ W,Z6 St.val Value.bool W ma ats→(Instr.mapUpdate 91 (.map (some ma)) (.agg #[.int .i64 an,.int .i64 ar]) (.bool true)).run Tryz.prog W=.ok () (Zn W ma (Zp ats ⟨an,ar⟩) (.agg #[.int .i64 an,.int .i64 ar]) (.bool true)) :=
  fun W hW=>hW.update ZL VS ⟨an,ar⟩ (.bool true)
 obtain ⟨a1,a2,hat⟩:∃ a1 a2,XL (Z5 vs ⟨⟨bn,br⟩,nm⟩)=⟨a1,a2⟩:=⟨_,_,rfl⟩
 rw[hat] at hc
 obtain ⟨x3,hl2⟩:∃ x3,∀ W,Z6 Pl.val Wr.val W mv vs→(Instr.lookup 90 (.map (some mv)) (.agg #[.int .i64 bn,.int .i64 br,.string nm]) false).run Tryz.prog W=.ok (.agg #[.int .i64 a1,.int .i64 a2,.string x3]) W:=by
  cases hg:Z5 vs ⟨⟨bn,br⟩,nm⟩ with
  | none =>
   rw[hg] at hat
   cases hat
   refine ⟨⟨#[]⟩,fun W hW=>?_⟩
   have:=hW.lookup WZ WL Wy ⟨⟨bn,br⟩,nm⟩
   rw[hg] at this
   exact this
  | some x =>
   rw[hg] at hat
   obtain ⟨⟨y1,y2⟩,y3⟩:=x
   cases hat
   refine ⟨y3,fun W hW=>?_⟩
   have:=hW.lookup WZ WL Wy ⟨⟨bn,br⟩,nm⟩
   rw[hg] at this
   exact this
 clear hat
 have hfd:∀ W,(Instr.field 97 (.agg #[.int .i64 a1,.int .i64 a2,.string x3]) 0).run Tryz.prog W=.ok (.agg #[.int .i64 a1,.int .i64 a2]) W:=fun _=>by kernel_rfl
 go_enter Tryz.func25,Tryz.ntmps25
 go_wp2_with (go_at_call 41;refine (WW _ _ _).mono ?_;rintro e w' ⟨rfl,hb⟩)
 have hm:Z6 St.val Value.bool w' ma ats:=((h3.alloc _).alloc _).below hb
 have hm2:Z6 Pl.val Wr.val w' mv vs:=((h2.alloc _).alloc _).below hb
 have k0:=Z0 hb (Z1 (Z1 c0 _) _)
 have k1:=Z0 hb (Z1 (Z1 c1 _) _)
 have k2:w'.cell? ⟨w.heap.size,0,none⟩=some (.int .i64 an):=Z0 hb (by go_simp)
 have k3:w'.cell? ⟨w.heap.size,1,none⟩=some (.int .i64 ar):=Z0 hb (by go_simp)
 have k4:w'.cell? ⟨w.heap.size+1,0,none⟩=some (.int .i64 bn):=Z0 hb (by go_simp)
 have k5:w'.cell? ⟨w.heap.size+1,1,none⟩=some (.int .i64 br):=Z0 hb (by go_simp)
 have hx:Ext (fun k=>k=mv∨k=ma) w w':=((((Ext.refl _ _).alloc _).alloc _).then_below hb)
 have z1:=Zj k0
 have z2:=Zj k4
 clear hb
 go_region_held3 (fun W=>W.cell? ⟨r,1,none⟩=some (.map (some ma))∧W.cell? ⟨w.heap.size,0,none⟩=some (.int .i64 an)∧W.cell? ⟨w.heap.size,1,none⟩=some (.int .i64 ar)∧Z6 St.val Value.bool W ma ats) (simp[*,Z6.drew]) (fail)
 go_wp2
 go_region_held3 (fun W=>W.cell? ⟨r,1,none⟩=some (.map (some ma))∧W.cell? ⟨w.heap.size,0,none⟩=some (.int .i64 an)∧W.cell? ⟨w.heap.size,1,none⟩=some (.int .i64 ar)) (simp[*,Z6.drew,ZP]) (fail)
 go_wp2
 have q1:Z6 Pl.val Wr.val (Zn w' ma (Zp ats ⟨an,ar⟩) (.agg #[.int .i64 an,.int .i64 ar]) (.bool true)) mv vs:=hm2.put_other _ _ _ h4
 have q2:Z6 St.val Value.bool (Zn w' ma (Zp ats ⟨an,ar⟩) (.agg #[.int .i64 an,.int .i64 ar]) (.bool true)) ma (Zx ats ⟨an,ar⟩ true):=hm.put ⟨an,ar⟩ true
 have q3:=hx.mapPut (b:=ma) (.inl (.inr rfl)) (Zp ats ⟨an,ar⟩) (.agg #[.int .i64 an,.int .i64 ar]) (.bool true)
 have j0:=(ZP w' ma (Zp ats ⟨an,ar⟩) (.agg #[.int .i64 an,.int .i64 ar]) (.bool true) ⟨r,0,none⟩).trans k0
 have j1:=(ZP w' ma (Zp ats ⟨an,ar⟩) (.agg #[.int .i64 an,.int .i64 ar]) (.bool true) ⟨r,1,none⟩).trans k1
 have j2:=(ZP w' ma (Zp ats ⟨an,ar⟩) (.agg #[.int .i64 an,.int .i64 ar]) (.bool true) ⟨w.heap.size,0,none⟩).trans k2
 have j3:=(ZP w' ma (Zp ats ⟨an,ar⟩) (.agg #[.int .i64 an,.int .i64 ar]) (.bool true) ⟨w.heap.size,1,none⟩).trans k3
 rw[←Wb w' ma (Zp ats ⟨an,ar⟩) (.agg #[.int .i64 an,.int .i64 ar]) (.bool true)]
 clear hm hm2 k0 k1 k2 k3 k4 k5 hx hl hu z1 z2
 generalize Zn w' ma (Zp ats ⟨an,ar⟩) (.agg #[.int .i64 an,.int .i64 ar]) (.bool true)=w2 at *
 have i4:(w2.alloc (.cells #[.int .i64 bn,.int .i64 br,.string nm] 95)).cell? ⟨w2.heap.size,0,none⟩=some (.int .i64 bn):=by go_simp
 have i5:(w2.alloc (.cells #[.int .i64 bn,.int .i64 br,.string nm] 95)).cell? ⟨w2.heap.size,1,none⟩=some (.int .i64 br):=by go_simp
 have i6:(w2.alloc (.cells #[.int .i64 bn,.int .i64 br,.string nm] 95)).cell? ⟨w2.heap.size,2,none⟩=some (.string nm):=by go_simp
 have i0:=Z1 j0 (.cells #[.int .i64 bn,.int .i64 br,.string nm] 95)
 have i1:=Z1 j1 (.cells #[.int .i64 bn,.int .i64 br,.string nm] 95)
 have i2:=Z1 j2 (.cells #[.int .i64 bn,.int .i64 br,.string nm] 95)
 have i3:=Z1 j3 (.cells #[.int .i64 bn,.int .i64 br,.string nm] 95)
 have p1:=q1.alloc (.cells #[.int .i64 bn,.int .i64 br,.string nm] 95)
 have p2:=q2.alloc (.cells #[.int .i64 bn,.int .i64 br,.string nm] 95)
 have p3:=q3.alloc (.cells #[.int .i64 bn,.int .i64 br,.string nm] 95)
 clear j0 j1 j2 j3 q1 q2 q3
 generalize w2.heap.size=N2 at *
 generalize w2.alloc (.cells #[.int .i64 bn,.int .i64 br,.string nm] 95)=w3 at *
 go_region_held3 (fun W=>W.cell? ⟨r,0,none⟩=some (.map (some mv))∧W.cell? ⟨w.heap.size,0,none⟩=some (.int .i64 an)∧W.cell? ⟨w.heap.size,1,none⟩=some (.int .i64 ar)∧W.cell? ⟨N2,0,none⟩=some (.int .i64 bn)∧W.cell? ⟨N2,1,none⟩=some (.int .i64 br)∧W.cell? ⟨N2,2,none⟩=some (.string nm)∧Z6 Pl.val Wr.val W mv vs) (first|exact ⟨i0,i2,i3,i4,i5,i6,p1⟩|exact ⟨Z0 hb4 i0,Z0 hb4 i2,Z0 hb4 i3,Z0 hb4 i4,Z0 hb4 i5,Z0 hb4 i6,p1.below hb4⟩) ((go_at_call 42;refine (VP _ _ _ _ _).mono ?_;rintro e w4 ⟨rfl,hb4⟩;simp only[ZR,ZJ] at hb4))
 go_wp2
 go_ret
 exact ⟨rfl,⟨Z0 hb4 i0,Z0 hb4 i1,p1.below hb4,p2.below hb4,h4⟩,p3.then_below hb4⟩
def Yh (ats:List (St × Bool)) (a:St):Int:=if Z7 a=false then 1 else if (Z5 ats a).getD false=true then 151 else 0
def W8 (ats:List (St × Bool)) (a:St):List (St × Bool):=if Yh ats a=0 then Zx ats a true else ats
def YY (vs:List (Pl × Wr)) (ats:List (St × Bool)) (a:St) (p:Pl) (v:ByteArray):List (Pl × Wr) :=
 if Yh ats a=0∧Yc (XL (Z5 vs p)) a<0 then Zx vs p ⟨a,v⟩ else vs
theorem X3.below {w w':World} {r mv ma:Nat} {vs:List (Pl × Wr)} {ats:List (St × Bool)} (h:X3 w r mv ma vs ats) (hb:Below w.heap.size w w'):X3 w' r mv ma vs ats :=
 ⟨Z0 hb h.c0,Z0 hb h.c1,h.hv.below hb,h.ha.below hb,h.ne⟩
theorem X3.ext {w w':World} {r mv ma:Nat} {vs:List (Pl × Wr)} {ats:List (St × Bool)} (h:X3 w r mv ma vs ats) {S:Nat→Prop} (hb:Ext S w w') (h1:¬ S r) (h2:¬ S mv) (h3:¬ S ma):X3 w' r mv ma vs ats :=
 ⟨hb.keep h.c0 h1,hb.keep h.c1 h1,h.hv.ext hb h2,h.ha.ext hb h3,h.ne⟩
theorem Z3g (r mv ma:Nat) (vs:List (Pl × Wr)) (ats:List (St × Bool)) (an ar bn br:Int) (nm vl:ByteArray) (w:World) (h:X3 w r mv ma vs ats) :
  Calls Tryz.prog 25 #[.pointer (some ⟨r,0,none⟩),.agg #[.int .i64 an,.int .i64 ar],.agg #[.int .i64 bn,.int .i64 br],.string nm,.string vl] w
   fun e w'=>e=.returned (.int .i64 (Yh ats ⟨an,ar⟩))∧X3 w' r mv ma (YY vs ats ⟨an,ar⟩ ⟨⟨bn,br⟩,nm⟩ vl) (W8 ats ⟨an,ar⟩)∧Ext (fun k=>k=mv∨k=ma) w w':=by
 by_cases hr:Z7 ⟨an,ar⟩=true
 ·by_cases ht:(Z5 ats ⟨an,ar⟩).getD false=true
  ·have e1:Yh ats ⟨an,ar⟩=151:=by simp[Yh,hr,ht]
   rw[YY,W8,e1,if_neg (by simp),if_neg (by simp)]
   exact (Z1B r mv ma vs ats an ar bn br nm vl w h hr ht).mono fun e w' ⟨he,hb⟩=>⟨he,h.below hb,Ext.of_below hb⟩
  ·have ht':(Z5 ats ⟨an,ar⟩).getD false=false:=by simpa using ht
   have e1:Yh ats ⟨an,ar⟩=0:=by simp[Yh,hr,ht']
   rw[YY,W8,e1,if_pos rfl]
   by_cases hc:Yc (XL (Z5 vs ⟨⟨bn,br⟩,nm⟩)) ⟨an,ar⟩<0
   ·rw[if_pos ⟨rfl,hc⟩]
    exact Z26 r mv ma vs ats an ar bn br nm vl w h hr ht' hc
   ·rw[if_neg (fun x=>hc x.2)]
    exact Z3b r mv ma vs ats an ar bn br nm vl w h hr ht' (by simpa using hc)
 ·have hr':Z7 ⟨an,ar⟩=false:=by simpa using hr
  have e1:Yh ats ⟨an,ar⟩=1:=by simp[Yh,hr']
  rw[YY,W8,e1,if_neg (by simp),if_neg (by simp)]
  exact (Z3h r mv ma vs ats an ar bn br nm vl w h hr').mono fun e w' ⟨he,hb⟩=>⟨he,h.below hb,Ext.of_below hb⟩
theorem Z2I (bn br:Int) (w:World) :
  Calls Tryz.prog 44 #[.pointer none,.agg #[.int .i64 bn,.int .i64 br]] w
   fun e w'=>e=.returned (.slice none 0 0)∧Below w.heap.size w w':=by
 go_enter Tryz.func44,Tryz.ntmps44
 go_wp2_with fail
 go_ret
 exact ⟨rfl,(Below.refl _ _).alloc (Nat.le_refl _) _⟩
def TC (x:Option Wr):ByteArray:=match x with|some y=>y.value|none=>⟨#[]⟩
end Go.Proofs.YtlgipkemoldckaaGreatDoor
namespace Go.Proofs.YtlgipkemoldckaaGreatDoor
open Go.RowKit Go.Sort Go.Shelf
structure Atr where
 name:ByteArray
 value:ByteArray
 deriving DecidableEq
instance:Inhabited Atr:=⟨⟨⟨#[]⟩,⟨#[]⟩⟩⟩
def Atr.cells (x:Atr):List Value:=[.string x.name,.string x.value]
theorem RV:SWO (ltOf fun x y:Atr=>YK x.name y.name) where
 irrefl x:=by simp only[ltOf,ltB];simp[List.lt_irrefl]
 trans x y z h1 h2:=by simp only[ltOf,ltB,decide_eq_true_eq] at *;exact List.lt_trans h1 h2
 ntrans x y z h1 h2:=by
  simp only[ltOf,ltB,decide_eq_false_iff_not] at *
  intro h
  exact (List.le_trans h2 h1) h
theorem Z2e (x y:Atr) (w:World) :
  Calls Tryz.prog 61 #[.agg x.cells.toArray,.agg y.cells.toArray] w fun e w'=>e=.returned (.int .i64 (YK x.name y.name))∧∃ q os',w'=grow (w.drewN q) os':=by
 unfold Atr.cells
 go_enter Tryz.func61,Tryz.ntmps61
 go_wp2_with (go_at_call 62;refine (U8 _ _ _).mono ?_;rintro e w' ⟨rfl,rfl⟩)
 go_ret
 exact ⟨rfl,0,_,by rw[alloc_eq_grow,alloc_eq_grow,grow_grow];rfl⟩
theorem R5 {base:Nat} {w:World} {v:Value} {l:List Atr} (h:Own Atr.cells 2 73 base w v l) (hl:l.length<4611686018427387904) :
  Calls Tryz.prog 60 #[v,.func (.func 61) #[] #[]] w fun e w'=>e=.returned (.tuple #[])∧∃ l',l'.Perm l∧l'.Pairwise (fun a b=>ltOf (fun x y:Atr=>YK x.name y.name) b a=false)∧Own Atr.cells 2 73 base w' v l'∧Ext (fun b=>v.ownBlock=some b) w w':=by
 have eg:∀ args w,(callFunc 61 args).run Tryz.prog w=.ok (.enter 61 args) w:=enters_of Tryz.func61 (by kernel_rfl) rfl
 refine Tq (fun _=>rfl) (by omega) (fun blk cap d w hH hb hs=>?_) (fun p cap w=>?_) h hl
 ·exact AnyQ.slices_SortFunc Tryz.sortAttr 2 Tryz.isAgg73 Tryz.sizeOf73 Atr.cells (fun _=>rfl) (fun x v hv=>by simp[Atr.cells] at hv;rcases hv with rfl|rfl <;> rfl) (fun x y=>YK x.name y.name) RV 61 #[] blk 0 cap d w eg (fun _ _ _ _ x y=>Z2e x y _) hH hb hs
 ·exact AnyF.slices_SortFunc_none Tryz.sortAttr p cap _ w
def ZN (vs:List (Pl × Wr)) (b:St):List Atr:=(vs.filter (fun p=>decide (p.1.blk=b))).map (fun p=>⟨p.1.name,p.2.value⟩)
theorem VT (a b:List (Pl × Wr)) (s:St):ZN (a++b) s=ZN a s++ZN b s:=by simp[ZN]
theorem RU {a b:List (Pl × Wr)} (h:a.Perm b) (s:St):(ZN a s).Perm (ZN b s):=(h.filter _).map _
theorem U5 (a:List (Pl × Wr)) (s:St):(ZN a s).length≤a.length:=by simp only[ZN,List.length_map];exact List.length_filter_le _ _
theorem Wq:(Tryz.prog.info? 73).map (fun i=>(i.zero,i.size,i.bytes))=some (some (.agg #[.string ⟨#[]⟩,.string ⟨#[]⟩]),2,32):=by kernel_rfl
def Z34 (w:World) (B it mv:Nat) (vs:List (Pl × Wr)) (bn br:Int) (k:Nat) (v:Value) (wr:World):Prop :=
 ∃ left dn cur,(dn++left).Perm vs∧k=left.length∧ZK Pl.val Wr.val wr it mv vs left cur∧Own Atr.cells 2 73 B wr v (ZN dn ⟨bn,br⟩) ∧
  wr.cell? ⟨w.heap.size,0,none⟩=some (.int .i64 bn)∧wr.cell? ⟨w.heap.size,1,none⟩=some (.int .i64 br)∧Below w.heap.size w wr∧B≤wr.heap.size
theorem Z2f (r mv ma:Nat) (vs:List (Pl × Wr)) (ats:List (St × Bool)) (bn br:Int) (w:World) (h:X3 w r mv ma vs ats) (hsz:vs.length≤1099511627776) :
  Calls Tryz.prog 44 #[.pointer (some ⟨r,0,none⟩),.agg #[.int .i64 bn,.int .i64 br]] w
   fun e w'=>∃ v l,e=.returned v∧Own Atr.cells 2 73 w.heap.size w' v l∧l.Perm (ZN vs ⟨bn,br⟩)∧l.Pairwise (fun a b=>ltOf (fun x y:Atr=>YK x.name y.name) b a=false)∧Below w.heap.size w w':=by
 obtain ⟨c0,c1,h2,h3,h4⟩:=h
 have d0:=Z1 c0 (.cells #[.int .i64 bn,.int .i64 br] 23)
 obtain ⟨w1,hrange,hit,hb1,hz1⟩:=(h2.alloc (.cells #[.int .i64 bn,.int .i64 br] 23)).range (P:=Tryz.prog) WL
 have e1:(w.alloc (.cells #[.int .i64 bn,.int .i64 br] 23)).heap.size=w.heap.size+1:=by simp
 rw[e1] at hrange hit hz1
 have hmlt:mv<w.heap.size:=h2.lt
 obtain ⟨i0,hi,hz0,hz1',hz2⟩:=info_parts Wq
 have k0:w1.cell? ⟨w.heap.size,0,none⟩=some (.int .i64 bn):=Z0 hb1 (by go_simp)
 have k1:w1.cell? ⟨w.heap.size,1,none⟩=some (.int .i64 br):=Z0 hb1 (by go_simp)
 have hB1:Below w.heap.size w w1:=((Below.refl _ _).alloc (Nat.le_refl _) _).trans (hb1.mono (by simp))
 have HZ:=Lib.hid hz1
 clear c0 c1 h2 h3 h4 hz1 hb1
 go_enter Tryz.func44,Tryz.ntmps44
 go_wp2_with fail
 go_loopg [5] vs.length (fun k v wr=>Z34 w (w.heap.size+2) (w.heap.size+1) mv vs bn br k v wr)
 case atStart=>exact ⟨vs,[],none,List.Perm.refl _,rfl,hit,Own.nil,k0,k1,hB1,by rw[HZ.out];exact Nat.le_refl _⟩
 case round =>
  obtain ⟨left,dn,cur,hperm,hk,hiter,hown,q0,q1,hB,hBs⟩:=hrel
  clear hit k0 k1 hB1 hrange d0 e1
  rcases hiter.next (P:=Tryz.prog) (by omega) with ⟨hnil,hnx⟩|⟨i,p,w2,hip,hnx,hiter2,hx2,hs2⟩
  ·have HK:=Lib.hid hk
   have HN:=Lib.hid hnil
   clear hk hnil
   go_wp2_with fail
   refine (R5 hown (by have:=U5 dn ⟨bn,br⟩;have:=hperm.length_eq;simp at this;omega)).mono ?_
   rintro e w3 ⟨rfl,l',hl1,hl2,hl3,hx3⟩
   have hb3:Below w.heap.size w w3:=⟨hx3.os.trans hB.os,hx3.tape.trans hB.tape,hx3.output.trans hB.output,Nat.le_trans hB.size hx3.size,fun j hj=>(hx3.block j (Nat.lt_of_lt_of_le hj hB.size) (fun e=>by have:=(hown.blk j e).1;omega)).trans (hB.block j hj)⟩
   have hp3:l'.Perm (ZN vs ⟨bn,br⟩):=by
    rw[HN.out,List.append_nil] at hperm
    exact hl1.trans (RU hperm _)
   have X:Hid (∃ v l,Ending.returned u5=.returned v∧Own Atr.cells 2 73 w.heap.size w3 v l∧l.Perm (ZN vs ⟨bn,br⟩)∧l.Pairwise (fun a b=>ltOf (fun x y:Atr=>YK x.name y.name) b a=false)∧Below w.heap.size w w3):=⟨_,l',rfl,hl3.mono (by omega),hp3,hl2,hb3⟩
   clear hp3 hb3 hl1 hl2 hl3 hx3 hown hperm hnx hiter
   go_wp2_with fail
   go_ret
   exact X.out
  ·obtain ⟨⟨⟨pn,pr⟩,pname⟩,⟨⟨xn,xr⟩,xval⟩⟩:=p
   simp only[Pl.val,Wr.val] at hnx
   have hen:∀ W,ZK Pl.val Wr.val W (w.heap.size+1) mv vs (left.eraseIdx i) (some (⟨⟨pn,pr⟩,pname⟩,⟨⟨xn,xr⟩,xval⟩))→(Instr.entry (.pointer (some ⟨w.heap.size+1,0,none⟩))).run Tryz.prog W=.ok (.tuple #[.agg #[.int .i64 pn,.int .i64 pr,.string pname],.agg #[.int .i64 xn,.int .i64 xr,.string xval]]) W:=fun W hW=>hW.entry
   have HK:=Lib.hid hk
   have HS:=Lib.hid hs2
   have HI:=Lib.hid hip
   clear hk hs2 hip
   replace q0:=hx2.keep q0 (by omega)
   replace q1:=hx2.keep q1 (by omega)
   have z0:=Zj q0
   have hown2:=hown.ext hx2 (fun b hb e=>by have:=(hown.blk b hb).1;omega)
   have hB2:Below w.heap.size w w2:=⟨hx2.os.trans hB.os,hx2.tape.trans hB.tape,hx2.output.trans hB.output,Nat.le_trans hB.size hx2.size,fun j hj=>(hx2.block j (Nat.lt_of_lt_of_le hj hB.size) (by omega)).trans (hB.block j hj)⟩
   have hs2:w.heap.size+2≤w2.heap.size:=by rw[HS.out];exact hBs
   have hlen:=U5 dn ⟨bn,br⟩
   have hlen2:=hperm.length_eq
   rw[List.length_append] at hlen2
   have hlen3:(ZN dn ⟨bn,br⟩).length≤1099511627776:=by omega
   have hper2:((dn++[((⟨⟨pn,pr⟩,pname⟩,⟨⟨xn,xr⟩,xval⟩):Pl × Wr)])++left.eraseIdx i).Perm vs:=by
    rw[List.append_assoc]
    exact (List.Perm.append_left dn (WA HI.out).symm).trans hperm
   have hk2:(left.eraseIdx i).length<gk:=by
    rw[HK.out,List.length_eraseIdx]
    have:=(List.getElem?_eq_some_iff.1 HI.out).1
    rw[if_pos this];omega
   have HP:=Lib.hid hper2
   clear hlen hlen2 hperm hper2 hown hB hiter hx2 hBs
   by_cases hb:pn=bn∧pr=br
   ·obtain ⟨rfl,rfl⟩:=hb
    have ha:ZN (dn++[(⟨⟨pn,pr⟩,pname⟩,⟨⟨xn,xr⟩,xval⟩)]) ⟨pn,pr⟩=ZN dn ⟨pn,pr⟩++[⟨pname,xval⟩]:=by rw[VT];simp[ZN]
    have HA:=Lib.hid ha
    clear ha
    go_wp2_with (at_builtin;refine Zo rfl _ _ _ rfl i0 (.agg #[.string ⟨#[]⟩,.string ⟨#[]⟩]) 32 Tryz.underlying24 hi hz0 hz1' hz2 rfl (by omega) (fun _=>rfl) (fun x u hu=>by simp[Atr.cells] at hu;rcases hu with rfl|rfl <;> rfl) rfl (((hown2.alloc _).alloc _).alloc _) ⟨pname,xval⟩ (w2.heap.size+2) 1 rfl ?_ (by unfold maxLen;omega) (by omega) (by simp;omega) ?_)
    ·intro j u hj
     have hju:(j=0∧u=.string pname)∨(j=1∧u=.string xval):=by
      match j,hj with
      | 0,hj=>simp[Atr.cells] at hj;exact .inl ⟨rfl,hj.symm⟩
      | 1,hj=>simp[Atr.cells] at hj;exact .inr ⟨rfl,hj.symm⟩
      | n+2,hj=>simp[Atr.cells] at hj
     rcases hju with ⟨rfl,rfl⟩|⟨rfl,rfl⟩ <;> go_simp
    ·intro v' w3 hown3 hx3
     go_wp2_with fail
     go_roundg (left.eraseIdx i).length
     case measure=>exact hk2
     case rel =>
      have hne:∀ b,u5.ownBlock=some b→w.heap.size+2≤b:=fun b hb=>(hown2.blk b hb).1
      refine ⟨left.eraseIdx i,_,_,HP.out,rfl,(((hiter2.alloc _).alloc _).alloc _).ext hx3 (fun e=>by have:=hne _ e;omega) (fun e=>by have:=hne _ e;omega),by rw[HA.out];exact hown3,hx3.keep (Z1 (Z1 (Z1 q0 _) _) _) (fun e=>by have:=hne _ e;omega),hx3.keep (Z1 (Z1 (Z1 q1 _) _) _) (fun e=>by have:=hne _ e;omega),?_,?_⟩
      ·exact Ext.new ((((hB2.alloc (by omega) _).alloc (by simp;omega) _).alloc (by simp;omega) _)) hx3 (fun b hb _ e=>by have:=hne _ e;omega) (by simp;omega)
      ·have:=hx3.size;simp at this;omega
   ·have ha:ZN (dn++[((⟨⟨pn,pr⟩,pname⟩,⟨⟨xn,xr⟩,xval⟩):Pl × Wr)]) ⟨bn,br⟩=ZN dn ⟨bn,br⟩:=by
     rw[VT]
     simp only[ZN,List.append_right_eq_self,List.map_eq_nil_iff]
     rw[List.filter_eq_nil_iff]
     intro x hx
     rw[List.mem_singleton.1 hx]
     simp only[decide_eq_true_eq,St.mk.injEq]
     exact hb
    have HA:=Lib.hid ha
    clear ha
    by_cases hb1:pn=bn
    ·have hb2:¬ pr=br:=fun e=>hb ⟨hb1,e⟩
     subst hb1
     clear hb
     go_wp2_with fail
     go_roundg (left.eraseIdx i).length
     case measure=>exact hk2
     case rel=>exact ⟨left.eraseIdx i,_,_,HP.out,rfl,(hiter2.alloc _).alloc _,by rw[HA.out];exact (hown2.alloc _).alloc _,Z1 (Z1 q0 _) _,Z1 (Z1 q1 _) _,(hB2.alloc (by omega) _).alloc (by simp;omega) _,by simp;omega⟩
    ·clear hb
     go_wp2_with fail
     go_roundg (left.eraseIdx i).length
     case measure=>exact hk2
     case rel=>exact ⟨left.eraseIdx i,_,_,HP.out,rfl,(hiter2.alloc _).alloc _,by rw[HA.out];exact (hown2.alloc _).alloc _,Z1 (Z1 q0 _) _,Z1 (Z1 q1 _) _,(hB2.alloc (by omega) _).alloc (by simp;omega) _,by simp;omega⟩
end Go.Proofs.YtlgipkemoldckaaGreatDoor
namespace Go.Proofs.YtlgipkemoldckaaGreatDoor
open Go.ChangeShapes Go.WideShapes Go.RowKit Go.Deep
structure Za where
 at_:St
 blk:St
 name:ByteArray
 value:ByteArray
 deriving DecidableEq
def Za.cells (x:Za):List Value:=[.int .i64 x.at_.n,.int .i64 x.at_.r,.int .i64 x.blk.n,.int .i64 x.blk.r,.string x.name,.string x.value]
section
variable {H:Type} {enc:TypeId × Value→H} {w:World} {base:Nat} {spare:Nat→Bool} {held:Bool}
theorem Z0D {fuel:Nat} {cs:List Value} {x:DataW H × List MemPlace} (h:DataW.trod enc Tryz.prog w base spare held fuel 58 cs=some x):∃ y:Za,cs=y.cells:=by
 obtain ⟨xs,n,_,_,hlen,hxl,hf⟩:=DataW.trod_struct Tryz.underlying58 h
 have hc:Tryz.prog.cellsOf 58=6:=by kernel_rfl
 have hc1:Tryz.prog.cellsOf 23=2:=by kernel_rfl
 have hc2:Tryz.prog.cellsOf 9=1:=by kernel_rfl
 rw[hc] at hlen
 match cs,hlen with
 | [a,b,c,d,e,f],_ =>
  have f0:DataW.trod enc Tryz.prog w base spare held n 23 [a,b]=xs[0]?:=by simpa [hc1] using hf 0 _ rfl
  have f1:DataW.trod enc Tryz.prog w base spare held n 23 [c,d]=xs[1]?:=by simpa [hc1] using hf 1 _ rfl
  have f2:DataW.trod enc Tryz.prog w base spare held n 9 [e]=xs[2]?:=by simpa [hc2] using hf 2 _ rfl
  have f3:DataW.trod enc Tryz.prog w base spare held n 9 [f]=xs[3]?:=by simpa [hc2] using hf 3 _ rfl
  simp at hxl
  obtain ⟨s,hs⟩:=YJ (f0.trans (List.getElem?_eq_getElem (by omega)))
  obtain ⟨u,hu⟩:=YJ (f1.trans (List.getElem?_eq_getElem (by omega)))
  obtain ⟨p,hp,_⟩:=DataW.trod_string Tryz.underlying9 (f2.trans (List.getElem?_eq_getElem (by omega)))
  obtain ⟨q,hq,_⟩:=DataW.trod_string Tryz.underlying9 (f3.trans (List.getElem?_eq_getElem (by omega)))
  simp at hs hu hp hq
  exact ⟨⟨s,u,p,q⟩,by simp[Za.cells,hs,hu,hp,hq]⟩
end
end Go.Proofs.YtlgipkemoldckaaGreatDoor
namespace Go.Proofs.YtlgipkemoldckaaGreatDoor
open Go.RowKit
def Za.pl (x:Za):Pl:=⟨x.blk,x.name⟩
def XV (s:List (Pl × Wr) × List (St × Bool)) (x:Za):List (Pl × Wr) × List (St × Bool):=(YY s.1 s.2 x.at_ x.pl x.value,W8 s.2 x.at_)
def Zv (ws:List Za):List (Pl × Wr) × List (St × Bool):=ws.foldl XV ([],[])
theorem TB:Zv []=([],[]):=rfl
theorem W7 (ws:List Za) (x:Za):Zv (ws++[x])=XV (Zv ws) x:=by simp[Zv]
def Wi (ws:List Za) (p:Pl) (x:Wr):Prop :=
 ∃ y∈ws,Z7 y.at_=true∧y.pl=p∧x=⟨y.at_,y.value⟩∧∀ z∈ws,Z7 z.at_=true→z.pl=p→¬ ZI y.at_ z.at_
def Z0O (ws:List Za):Prop:=∀ y∈ws,∀ z∈ws,y.at_=z.at_→y=z
theorem Wi.mem {ws ws':List Za} (hm:∀ x,x∈ws↔x∈ws') {p:Pl} {x:Wr} (h:Wi ws p x):Wi ws' p x:=by
 obtain ⟨y,hy,ry,py,e,my⟩:=h
 exact ⟨y,(hm y).1 hy,ry,py,e,fun z hz=>my z ((hm z).2 hz)⟩
theorem Qi (ws:List Za) (p:Pl):∀ z∈ws,Z7 z.at_=true→z.pl=p→∃ x,Wi ws p x:=by
 induction ws with
 | nil=>intro z hz;cases hz
 | cons y ws ihw =>
  intro z hz rz pz
  by_cases hex:∃ x,Wi ws p x
  ·obtain ⟨x,u,hu,ru,pu,ex,mu⟩:=hex
   by_cases hy:Z7 y.at_=true∧y.pl=p∧ZI u.at_ y.at_
   ·refine ⟨_,y,by simp,hy.1,hy.2.1,rfl,fun v hv rv pv hlt=>?_⟩
    rcases List.mem_cons.1 hv with rfl|hv
    ·exact Zl _ hlt
    ·exact mu v hv rv pv (ZC hy.2.2 hlt)
   ·refine ⟨_,u,by simp[hu],ru,pu,rfl,fun v hv rv pv hlt=>?_⟩
    rcases List.mem_cons.1 hv with rfl|hv
    ·exact hy ⟨rv,pv,hlt⟩
    ·exact mu v hv rv pv hlt
  ·rcases List.mem_cons.1 hz with rfl|hz
   ·refine ⟨_,z,by simp,rz,pz,rfl,fun v hv rv pv hlt=>?_⟩
    rcases List.mem_cons.1 hv with rfl|hv
    ·exact Zl _ hlt
    ·exact hex (ihw v hv rv pv)
   ·exact absurd (ihw z hz rz pz) hex
structure Z1y (ws:List Za) (s:List (Pl × Wr) × List (St × Bool)):Prop where
 ats:∀ a,(Z5 s.2 a).getD false=true↔∃ y∈ws,Z7 y.at_=true∧y.at_=a
 vals:∀ p x,Z5 s.1 p=some x↔Wi ws p x
theorem WP {α:Type} {p:List α→Prop} (h0:p []) (h1:∀ l x,p l→p (l++[x])):∀ l,p l:=fun l=>by
 have h2:∀ r:List α,p r.reverse:=fun r=>by
  induction r with
  | nil=>exact h0
  | cons x r ih=>rw[List.reverse_cons];exact h1 _ _ ih
 have:=h2 l.reverse
 rwa [List.reverse_reverse] at this
theorem Z16 (ws:List Za):Z0O ws→Z1y ws (Zv ws):=by
 refine WP (p:=fun ws=>Z0O ws→Z1y ws (Zv ws)) ?_ ?_ ws
 ·intro _
  refine ⟨fun a=>?_,fun p x=>?_⟩
  ·simp[TB,Z5]
  ·simp[TB,Z5,Wi]
 ·intro ws w ih hf
  have hf':Z0O ws:=fun y hy z hz=>hf y (by simp[hy]) z (by simp[hz])
  have I:=ih hf'
  rw[W7]
  generalize Zv ws=s at I
  obtain ⟨vs,ats⟩:=s
  obtain ⟨I1,I2⟩:=I
  simp only at I1 I2
  by_cases hr:Z7 w.at_=true
  ·by_cases ht:(Z5 ats w.at_).getD false=true
   ·-- it was there
    obtain ⟨y,hy,ry,ey⟩:=(I1 w.at_).1 ht
    have hyw:y=w:=hf y (by simp[hy]) w (by simp) ey
    subst hyw
    have hm:∀ x,x∈ws↔x∈ws++[y]:=fun x=>by
     simp only[List.mem_append,List.mem_singleton]
     exact ⟨.inl,fun h=>h.elim id (fun e=>e ▸ hy)⟩
    have hc:Yh ats y.at_=151:=by simp[Yh,hr,ht]
    have e1:XV (vs,ats) y=(vs,ats):=by simp[XV,YY,W8,hc]
    rw[e1]
    refine ⟨fun a=>(I1 a).trans ⟨fun ⟨z,hz,r⟩=>⟨z,(hm z).1 hz,r⟩,fun ⟨z,hz,r⟩=>⟨z,(hm z).2 hz,r⟩⟩,fun p x=>(I2 p x).trans ⟨Wi.mem hm,Wi.mem (fun x=>(hm x).symm)⟩⟩
   ·have ht':(Z5 ats w.at_).getD false=false:=by simpa using ht
    have hc:Yh ats w.at_=0:=by simp[Yh,hr,ht']
    have hnew:∀ y∈ws,Z7 y.at_=true→y.at_≠w.at_:=fun y hy ry e=>ht ((I1 w.at_).2 ⟨y,hy,ry,e⟩)
    refine ⟨fun a=>?_,fun p x=>?_⟩
    ·show (Z5 (W8 ats w.at_) a).getD false=true↔_
     rw[W8,if_pos hc]
     by_cases ha:w.at_=a
     ·subst ha
      rw[ZU]
      simp only[Option.getD_some,true_iff]
      exact ⟨w,by simp,hr,rfl⟩
     ·rw[ZE _ _ ha,I1 a]
      constructor
      ·rintro ⟨y,hy,r⟩;exact ⟨y,by simp[hy],r⟩
      ·rintro ⟨y,hy,ry,ey⟩
       rcases List.mem_append.1 hy with hy|hy
       ·exact ⟨y,hy,ry,ey⟩
       ·rw[List.mem_singleton.1 hy] at ey;exact absurd ey ha
    ·show Z5 (YY vs ats w.at_ w.pl w.value) p=some x↔_
     by_cases hlt:Yc (XL (Z5 vs w.pl)) w.at_<0
     ·rw[YY,if_pos ⟨hc,hlt⟩]
      rw[Wm] at hlt
      have old:∀ z∈ws,Z7 z.at_=true→z.pl=w.pl→ZI z.at_ w.at_:=by
       intro z hz rz pz
       cases hg:Z5 vs w.pl with
       | none =>
        exfalso
        have:∃ x,Wi ws w.pl x:=Qi ws w.pl z hz rz pz
        obtain ⟨x,hx⟩:=this
        rw[(I2 w.pl x).2 hx] at hg
        cases hg
       | some x0 =>
        rw[hg] at hlt
        obtain ⟨u,hu,ru,pu,ex,mu⟩:=(I2 w.pl x0).1 hg
        subst ex
        have hlt':ZI u.at_ w.at_:=hlt
        rcases Y5 z.at_ u.at_ with t|t|t
        ·exact ZC t hlt'
        ·rw[t];exact hlt'
        ·exact absurd t (mu z hz rz pz)
      by_cases hp:w.pl=p
      ·subst hp
       rw[ZU]
       constructor
       ·intro e
        cases e
        refine ⟨w,by simp,hr,rfl,rfl,fun z hz rz pz hl=>?_⟩
        rcases List.mem_append.1 hz with hz|hz
        ·exact Zl _ (ZC hl (old z hz rz pz))
        ·rw[List.mem_singleton.1 hz] at hl;exact Zl _ hl
       ·rintro ⟨y,hy,ry,py,rfl,my⟩
        rcases List.mem_append.1 hy with hy|hy
        ·exact absurd (old y hy ry py) (my w (by simp) hr rfl)
        ·rw[List.mem_singleton.1 hy]
      ·rw[ZE _ _ hp,I2 p x]
       constructor
       ·rintro ⟨y,hy,ry,py,e,my⟩
        refine ⟨y,by simp[hy],ry,py,e,fun z hz rz pz=>?_⟩
        rcases List.mem_append.1 hz with hz|hz
        ·exact my z hz rz pz
        ·rw[List.mem_singleton.1 hz] at pz;exact absurd pz hp
       ·rintro ⟨y,hy,ry,py,e,my⟩
        rcases List.mem_append.1 hy with hy|hy
        ·exact ⟨y,hy,ry,py,e,fun z hz=>my z (by simp[hz])⟩
        ·rw[List.mem_singleton.1 hy] at py;exact absurd py hp
     ·rw[YY,if_neg (fun h=>hlt h.2),I2 p x]
      rw[Wm] at hlt
      obtain ⟨u,hu,ru,pu,hlu⟩:∃ u∈ws,Z7 u.at_=true∧u.pl=w.pl∧ZI w.at_ u.at_:=by
       cases hg:Z5 vs w.pl with
       | none=>rw[hg] at hlt;exact absurd (UF hr) hlt
       | some x0 =>
        rw[hg] at hlt
        obtain ⟨u,hu,ru,pu,ex,mu⟩:=(I2 w.pl x0).1 hg
        subst ex
        refine ⟨u,hu,ru,pu,?_⟩
        rcases Y5 w.at_ u.at_ with t|t|t
        ·exact t
        ·exact absurd t.symm (hnew u hu ru)
        ·exact absurd t hlt
      constructor
      ·rintro ⟨y,hy,ry,py,e,my⟩
       refine ⟨y,by simp[hy],ry,py,e,fun z hz rz pz hl=>?_⟩
       rcases List.mem_append.1 hz with hz|hz
       ·exact my z hz rz pz hl
       ·rw[List.mem_singleton.1 hz] at pz hl
        exact my u hu ru (pu.trans pz) (ZC hl hlu)
      ·rintro ⟨y,hy,ry,py,e,my⟩
       rcases List.mem_append.1 hy with hy|hy
       ·exact ⟨y,hy,ry,py,e,fun z hz=>my z (by simp[hz])⟩
       ·rw[List.mem_singleton.1 hy] at py my
        exact absurd hlu (my u (by simp[hu]) ru (pu.trans py))
  ·-- it may not be
   have hr':Z7 w.at_=false:=by simpa using hr
   have hc:Yh ats w.at_=1:=by simp[Yh,hr']
   have e1:XV (vs,ats) w=(vs,ats):=by simp[XV,YY,W8,hc]
   rw[e1]
   have hm:∀ x,Z7 x.at_=true→(x∈ws↔x∈ws++[w]):=fun x hx=>by
    simp only[List.mem_append,List.mem_singleton]
    exact ⟨.inl,fun h=>h.elim id (fun e=>by rw[e] at hx;exact absurd hx hr)⟩
   refine ⟨fun a=>(I1 a).trans ⟨fun ⟨z,hz,r⟩=>⟨z,(hm z r.1).1 hz,r⟩,fun ⟨z,hz,r⟩=>⟨z,(hm z r.1).2 hz,r⟩⟩,fun p x=>(I2 p x).trans ⟨?_,?_⟩⟩
   ·rintro ⟨y,hy,ry,py,e,my⟩
    exact ⟨y,(hm y ry).1 hy,ry,py,e,fun z hz rz=>my z ((hm z rz).2 hz) rz⟩
   ·rintro ⟨y,hy,ry,py,e,my⟩
    exact ⟨y,(hm y ry).2 hy,ry,py,e,fun z hz rz=>my z ((hm z rz).1 hz) rz⟩
structure Wo (vs:List (Pl × Wr)) (b:St) (l:List Atr):Prop where
 mem:∀ a,a∈l↔∃ x,Z5 vs ⟨b,a.name⟩=some x∧x.value=a.value
 rising:l.Pairwise (fun a c=>a.name.toList<c.name.toList)
theorem R6 {l l':List Atr} (hm:∀ a,a∈l↔a∈l') (h:l.Pairwise (fun a c=>a.name.toList<c.name.toList)) (h':l'.Pairwise (fun a c=>a.name.toList<c.name.toList)):l=l':=by
 induction l generalizing l' with
 | nil =>
  cases l' with
  | nil=>rfl
  | cons y l'=>exact absurd ((hm y).2 (by simp)) (by simp)
 | cons x l ih =>
  cases l' with
  | nil=>exact absurd ((hm x).1 (by simp)) (by simp)
  | cons y l' =>
   obtain ⟨h1,h2⟩:=List.pairwise_cons.1 h
   obtain ⟨h1',h2'⟩:=List.pairwise_cons.1 h'
   have hxy:x=y:=by
    rcases List.mem_cons.1 ((hm x).1 (by simp)) with e|e
    ·exact e
    ·rcases List.mem_cons.1 ((hm y).2 (by simp)) with f|f
     ·exact f.symm
     ·exact absurd (List.lt_trans (h1 y f) (h1' x e)) (List.lt_irrefl _)
   subst hxy
   congr 1
   refine ih (fun a=>?_) h2 h2'
   constructor
   ·intro ha
    rcases List.mem_cons.1 ((hm a).1 (by simp[ha])) with e|e
    ·rw[e] at ha;exact absurd (h1 x ha) (List.lt_irrefl _)
    ·exact e
   ·intro ha
    rcases List.mem_cons.1 ((hm a).2 (by simp[ha])) with e|e
    ·rw[e] at ha;exact absurd (h1' x ha) (List.lt_irrefl _)
    ·exact e
theorem Wo.unique {vs vs':List (Pl × Wr)} {b:St} {l l':List Atr} (h:Wo vs b l) (h':Wo vs' b l') (he:∀ n,Z5 vs ⟨b,n⟩=Z5 vs' ⟨b,n⟩):l=l' :=
 R6 (fun a=>by rw[h.mem a,h'.mem a,he]) h.rising h'.rising
theorem Z09 {vs:List (Pl × Wr)} (hn:(vs.map (·.1)).Nodup) {b:St} {l:List Atr} (hp:l.Perm (ZN vs b)) (hs:l.Pairwise (fun x c=>Go.Proofs.ltOf (fun x y:Atr=>YK x.name y.name) c x=false)):Wo vs b l:=by
 have hmem:∀ a,a∈l↔∃ x,Z5 vs ⟨b,a.name⟩=some x∧x.value=a.value:=by
  intro a
  rw[hp.mem_iff]
  simp only[ZN,List.mem_map,List.mem_filter,decide_eq_true_eq]
  constructor
  ·rintro ⟨⟨⟨pb,pn⟩,x⟩,⟨h1,h2⟩,rfl⟩
   simp only at h2
   subst h2
   exact ⟨x,VQ hn h1,rfl⟩
  ·rintro ⟨x,h1,h2⟩
   exact ⟨(⟨b,a.name⟩,x),⟨Tl h1,rfl⟩,by cases a;simp_all⟩
 have hnd:(ZN vs b).Pairwise (fun x y=>x.name≠y.name):=by
  unfold ZN
  rw[List.pairwise_map]
  have h0:(vs.filter (fun p=>decide (p.1.blk=b))).Pairwise (fun p q=>p.1≠q.1):=(List.pairwise_map.1 hn).filter _
  refine List.Pairwise.imp_of_mem ?_ h0
  intro p q hp hq hne e
  simp only[List.mem_filter,decide_eq_true_eq] at hp hq
  apply hne
  obtain ⟨⟨pb,pn⟩,x⟩:=p
  obtain ⟨⟨qb,qn⟩,y⟩:=q
  simp only at hp hq e
  rw[hp.2,hq.2,e]
 have hnd':l.Pairwise (fun x y=>x.name≠y.name):=(hp.symm.pairwise_iff (fun {x y} h=>fun e=>h e.symm)).1 hnd
 refine ⟨hmem,?_⟩
 have:=hs.and hnd'
 refine this.imp ?_
 rintro x y ⟨h1,h2⟩
 simp only[Go.Proofs.ltOf,ltB,decide_eq_false_iff_not] at h1
 exact Classical.byContradiction fun h3=>h2 ((ZS _ _).1 (WI _ _ h3 h1))
theorem Ui {l:List Za} {k:Nat} {x:Za} (h:l[k]?=some x):l.take (k+1)=l.take k++[x]:=by
 obtain ⟨hl,rfl⟩:=List.getElem?_eq_some_iff.1 h
 rw[List.take_succ_eq_append_getElem hl]
theorem TX {a b:St} (h1:a.n=b.n) (h2:a.r=b.r):a=b:=by
 cases a
 cases b
 simp only at h1 h2
 rw[h1,h2]
def WT (w:World) (r B:Nat) (L:List Za):Prop :=
 ∃ v,w.heap[r]?=some (.cells #[v] 81 (0,0))∧Own Za.cells 6 58 B w v L
theorem WT.below {w w':World} {r B:Nat} {L:List Za} (h:WT w r B L) (hb:Below w.heap.size w w'):WT w' r B L:=by
 obtain ⟨v,h1,h2⟩:=h
 exact ⟨v,(hb.block r (Array.getElem?_eq_some_iff.1 h1).1).trans h1,h2.ext (Ext.of_below (S:=fun _=>False) hb) (fun _ _ h=>h)⟩
theorem We {w:World} {r:Nat} {v:Value} {t:TypeId} (h:w.heap[r]?=some (.cells #[v] t (0,0))):w.cell? ⟨r,0,none⟩=some v:=by simp[World.cell?,h]
theorem Um {w:World} {r:Nat} {v:Value} {t:TypeId} (h:w.heap[r]?=some (.cells #[v] t (0,0))):w.frozen? ⟨r,0,none⟩=false:=by simp[World.frozen?,h]
theorem Qq {w:World} {r:Nat} {u v:Value} {t:TypeId} (h:w.heap[r]?=some (.cells #[u] t (0,0))):(w.setCell ⟨r,0,none⟩ v).heap[r]?=some (.cells #[v] t (0,0)):=by
 simp[World.setCell,Array.getElem?_modify,h]
theorem Z1l (w:World) (r:Nat) (v:Value):Ext (·=r) w (w.setCell ⟨r,0,none⟩ v):=(Ext.refl (·=r) w).setCell (p:=⟨r,0,none⟩) (.inr rfl) v
theorem QS:(Tryz.prog.info? 58).map (fun i=>(i.zero,i.size,i.bytes))=some (some (.agg #[.int .i64 0,.int .i64 0,.int .i64 0,.int .i64 0,.string ⟨#[]⟩,.string ⟨#[]⟩]),6,64):=by kernel_rfl
theorem Z2C (r:Nat) (an ar bn br:Int) (nm vl:ByteArray) (w:World) (hr:Z7 ⟨an,ar⟩=false) :
  Calls Tryz.prog 36 #[.pointer (some ⟨r,0,none⟩),.agg #[.int .i64 an,.int .i64 ar],.agg #[.int .i64 bn,.int .i64 br],.string nm,.string vl] w
   fun e w'=>e=.returned (.int .i64 1)∧Below w.heap.size w w':=by
 go_enter Tryz.func36,Tryz.ntmps36
 go_wp2_with fail
 refine (ZG _ _ _).mono ?_
 rintro e w1 ⟨rfl,b1⟩
 rw[hr]
 go_wp2_with fail
 go_ret
 exact ⟨rfl,(((Below.refl _ _).alloc (Nat.le_refl _) _).alloc (by simp) _).trans (b1.mono (by simp <;> omega))⟩
def XD (L:List Za) (a:St):Bool:=L.any (fun x=>decide (x.at_=a))
theorem Z3i (r B:Nat) (v:Value) (L:List Za) (an ar bn br:Int) (nm vl:ByteArray) (w:World) (hb:w.heap[r]?=some (.cells #[v] 81 (0,0))) (hown:Own Za.cells 6 58 B w v L) (hB:B≤w.heap.size) (hsz:L.length≤1000) (hr:Z7 ⟨an,ar⟩=true) :
  Calls Tryz.prog 36 #[.pointer (some ⟨r,0,none⟩),.agg #[.int .i64 an,.int .i64 ar],.agg #[.int .i64 bn,.int .i64 br],.string nm,.string vl] w
   fun e w'=>(XD L ⟨an,ar⟩=true∧e=.returned (.int .i64 151)∧Below w.heap.size w w')∨(XD L ⟨an,ar⟩=false∧e=.returned (.int .i64 0)∧WT w' r B (L++[⟨⟨an,ar⟩,⟨bn,br⟩,nm,vl⟩])∧Ext (fun k=>k=r∨v.ownBlock=some k) w w'):=by
 obtain ⟨va,vc,rfl,hcap,hmax,hcs⟩:=hown.slice (fun _=>rfl)
 unfold maxLen at hmax
 obtain ⟨i0,hi,hz0,hz1',hz2⟩:=info_parts QS
 go_enter Tryz.func36,Tryz.ntmps36
 go_wp2_with fail
 refine (ZG _ _ _).mono ?_
 rintro e w1 ⟨rfl,b1⟩
 rw[hr]
 have y1:Below w.heap.size w w1:=(((Below.refl _ _).alloc (Nat.le_refl _) _).alloc (by simp) _).trans (b1.mono (by simp <;> omega))
 have k0:w1.cell? ⟨w.heap.size,0,none⟩=some (.int .i64 an):=Z0 b1 (by go_simp)
 have k1:w1.cell? ⟨w.heap.size,1,none⟩=some (.int .i64 ar):=Z0 b1 (by go_simp)
 have k2:w1.cell? ⟨w.heap.size+1,0,none⟩=some (.int .i64 bn):=Z0 b1 (by go_simp)
 have k3:w1.cell? ⟨w.heap.size+1,1,none⟩=some (.int .i64 br):=Z0 b1 (by go_simp)
 have hb1:=(y1.block r (Array.getElem?_eq_some_iff.1 hb).1).trans hb
 have c0:=We hb1
 have hrl:r<w.heap.size:=(Array.getElem?_eq_some_iff.1 hb).1
 have own1:=hown.ext (Ext.of_below (S:=fun _=>False) y1) (fun _ _ h=>h)
 clear b1 hb hown
 go_wp2_with fail
 go_loopg [12] L.length (fun g i wx=>∃ k:Nat,g=L.length - k∧k≤L.length∧i=.int .i64 k∧Hid (∀ j x,j<k→L[j]?=some x→x.at_≠⟨an,ar⟩)∧Below w1.heap.size w1 wx)
 case atStart=>exact ⟨0,rfl,Nat.zero_le _,rfl,fun j x hj=>absurd hj (by omega),Below.refl _ _⟩
 case round =>
  obtain ⟨k,hg,hk,rfl,hpre,hX⟩:=hrel
  have HG:=Lib.hid hg
  clear hg
  have c0':=Z0 hX c0
  have k0':=Z0 hX k0
  have k1':=Z0 hX k1
  by_cases hlt:k<L.length
  ·obtain ⟨x,hx⟩:∃ x,L[k]?=some x:=⟨_,List.getElem?_eq_getElem hlt⟩
   obtain ⟨bs,os,rfl,hcc⟩:=hcs (by intro e;rw[e] at hlt;simp at hlt)
   have x0:wr.cell? ⟨bs,os+k*6,none⟩=some (.int .i64 x.at_.n):=Z0 hX (Z0 y1 (hcc k x hx 0 _ rfl))
   have x1:wr.cell? ⟨bs,os+k*6+1,none⟩=some (.int .i64 x.at_.r):=Z0 hX (Z0 y1 (hcc k x hx 1 _ rfl))
   have HX:=Lib.hid hx
   clear hx hcc hcs k0 k1 k2 k3 c0
   by_cases hat:x.at_=⟨an,ar⟩
   ·have e1:x.at_.n=an:=by rw[hat]
    have e2:x.at_.r=ar:=by rw[hat]
    rw[e1] at x0
    rw[e2] at x1
    have hh:XD L ⟨an,ar⟩=true:=by
     rw[XD,List.any_eq_true]
     exact ⟨x,List.mem_of_getElem? HX.out,by simp[hat]⟩
    have HH:=Lib.hid hh
    clear hat e1 e2 hh
    go_wp2_with fail
    go_region_held3 (fun W=>W.cell? ⟨r,0,none⟩=some (.slice (some ⟨bs,os,none⟩) L.length vc)∧W.cell? ⟨bs,os+k*6,none⟩=some (.int .i64 an)∧W.cell? ⟨bs,os+k*6+1,none⟩=some (.int .i64 ar)∧W.cell? ⟨w.heap.size,0,none⟩=some (.int .i64 an)∧W.cell? ⟨w.heap.size,1,none⟩=some (.int .i64 ar)) (exact ⟨c0',x0,x1,k0',k1'⟩) (fail)
    go_wp2_with fail
    go_ret
    exact .inl ⟨HH.out,rfl,(y1.trans (hX.mono y1.size)).drew⟩
   ·have hd:(x.at_.n == an && x.at_.r == ar)=false:=by
     rw[Bool.and_eq_false_iff]
     by_cases e1:x.at_.n=an
     ·right;simp;exact fun e2=>hat (TX e1 e2)
     ·left;simpa using e1
    by_cases e1:x.at_.n=an
    ·have e2:¬ x.at_.r=ar:=fun e2=>hat (TX e1 e2)
     have HA:=Lib.hid hat
     clear hat hd
     go_wp2_with fail
     go_region_held3 (fun W=>W.cell? ⟨r,0,none⟩=some (.slice (some ⟨bs,os,none⟩) L.length vc)∧W.cell? ⟨bs,os+k*6,none⟩=some (.int .i64 x.at_.n)∧W.cell? ⟨bs,os+k*6+1,none⟩=some (.int .i64 x.at_.r)∧W.cell? ⟨w.heap.size,0,none⟩=some (.int .i64 an)∧W.cell? ⟨w.heap.size,1,none⟩=some (.int .i64 ar)) (exact ⟨c0',x0,x1,k0',k1'⟩) (fail)
     go_wp2_with fail
     go_roundg (L.length - (k+1))
     case measure=>rw[HG.out];omega
     case rel =>
      refine ⟨k+1,rfl,hlt,by go_num,fun j y hj hy=>?_,hX.drew⟩
      by_cases hjk:j<k
      ·exact hpre.out j y hjk hy
      ·obtain rfl:j=k:=by omega
       rw[HX.out] at hy;cases hy;exact HA.out
    ·have HA:=Lib.hid hat
     clear hat hd
     go_wp2_with fail
     go_region_held3 (fun W=>W.cell? ⟨r,0,none⟩=some (.slice (some ⟨bs,os,none⟩) L.length vc)∧W.cell? ⟨bs,os+k*6,none⟩=some (.int .i64 x.at_.n)∧W.cell? ⟨bs,os+k*6+1,none⟩=some (.int .i64 x.at_.r)∧W.cell? ⟨w.heap.size,0,none⟩=some (.int .i64 an)∧W.cell? ⟨w.heap.size,1,none⟩=some (.int .i64 ar)) (exact ⟨c0',x0,x1,k0',k1'⟩) (fail)
     go_wp2_with fail
     go_roundg (L.length - (k+1))
     case measure=>rw[HG.out];omega
     case rel =>
      refine ⟨k+1,rfl,hlt,by go_num,fun j y hj hy=>?_,hX.drew⟩
      by_cases hjk:j<k
      ·exact hpre.out j y hjk hy
      ·obtain rfl:j=k:=by omega
       rw[HX.out] at hy;cases hy;exact HA.out
  ·have hh:XD L ⟨an,ar⟩=false:=by
    rw[Bool.eq_false_iff]
    intro hh
    rw[XD,List.any_eq_true] at hh
    obtain ⟨x,hx,he⟩:=hh
    obtain ⟨j,hj⟩:=List.getElem?_of_mem hx
    have:=(List.getElem?_eq_some_iff.1 hj).1
    exact hpre.out j x (by omega) hj (by simpa using he)
   have HH:=Lib.hid hh
   clear hh hpre
   have k2':=Z0 hX k2
   have k3':=Z0 hX k3
   have own2:=own1.ext (Ext.of_below (S:=fun _=>False) hX) (fun _ _ h=>h)
   have hb2:=(hX.block r (by have:=y1.size;omega)).trans hb1
   have f0:=Um hb2
   have hzr:w.heap.size+1<wr.heap.size:=by have:=Zj k2';omega
   have hrw:r<wr.heap.size:=by omega
   have hBw:B≤wr.heap.size:=by omega
   have hnb:∀ j u,(Za.cells ⟨⟨an,ar⟩,⟨bn,br⟩,nm,vl⟩)[j]?=some u→(wr.alloc (.cells #[.int .i64 an,.int .i64 ar,.int .i64 bn,.int .i64 br,.string nm,.string vl] 58)).cell? ⟨wr.heap.size,j,none⟩=some u:=by
    intro j u hj
    rw[World.cell?_alloc_at _ _ _ _ rfl]
    rw[←hj,Za.cells]
    simp
   have HNB:=Lib.hid hnb
   clear hnb
   have hown2:=own2.alloc (.cells #[.int .i64 an,.int .i64 ar,.int .i64 bn,.int .i64 br,.string nm,.string vl] 58)
   have HOW:=Lib.hid hown2
   have hnr:∀ t cur,wr.heap[r]?=some (.cells cur t (0,0))→t=81:=fun t cur h=>by rw[hb2] at h;cases h;rfl
   have hnr2:¬ (Value.slice va L.length vc).ownBlock=some r:=fun e=>by
    obtain ⟨cur,hc⟩:=own2.tag e
    have:=hnr _ _ hc
    cases this
   have hall:∀ w5 w6:World,w5.heap=(wr.alloc (.cells #[.int .i64 an,.int .i64 ar,.int .i64 bn,.int .i64 br,.string nm,.string vl] 58)).heap→Ext (fun b=>(Value.slice va L.length vc).ownBlock=some b) w5 w6→w6.heap[r]?=some (.cells #[.slice va L.length vc] 81 (0,0)):=fun w5 w6 h5 hx6=>by
    rw[hx6.block r (by rw[h5];simp;omega) hnr2,h5,Below.heap_alloc _ _ _ hrw];exact hb2
   have HALL:=Lib.hid hall
   clear hnr hnr2 hall
   clear hown2 hcs k0 k1 k2 k3 c0 own1
   go_wp2_with fail
   go_region_law (refine V2 (v:=.slice va L.length vc) (l:=L) rfl (.tmp 40) (.tmp 46) 36 rfl i0 _ 64 Tryz.underlying36 hi hz0 hz1' hz2 rfl (by omega) (fun _=>rfl) (fun x u hu=>by simp[Za.cells] at hu;rcases hu with rfl|rfl|rfl|rfl|rfl|rfl <;> rfl) rfl HOW.out ⟨⟨an,ar⟩,⟨bn,br⟩,nm,vl⟩ wr.heap.size 1 rfl HNB.out (by unfold maxLen;omega) (by omega) (by simp;omega) ?_;intro v' w6 hown6 hx6;obtain ⟨g6,cp6,rfl⟩:∃ g c,v'=.slice (some ⟨g,0,none⟩) (L.length+1) c:=(by rcases hown6.eq_slice with ⟨_,h⟩|⟨g,c,h,_⟩;(simp at h);exact ⟨g,c,by simpa using h⟩);have hb6:=HALL.out _ w6 (by rfl) hx6;have g1:=We hb6;have g2:=Um hb6)
   all_goals
    have hfin:WT (w6.setCell ⟨r,0,none⟩ (.slice (some ⟨g6,0,none⟩) (L.length+1) cp6)) r B (L++[⟨⟨an,ar⟩,⟨bn,br⟩,nm,vl⟩]):=by
     refine ⟨_,Qq hb6,hown6.ext (Z1l _ _ _) (fun b hb e=>?_)⟩
     obtain ⟨cur,hc⟩:=hown6.tag hb
     rw[e,hb6] at hc
     cases hc
    have hx1:Ext (fun k=>k=r∨(Value.slice va L.length vc).ownBlock=some k) w wr:=Ext.of_below (y1.trans (hX.mono y1.size))
    have hx2:Ext (fun k=>k=r∨(Value.slice va L.length vc).ownBlock=some k) w (w6.setCell ⟨r,0,none⟩ (.slice (some ⟨g6,0,none⟩) (L.length+1) cp6)):=by
     refine Ext.setCell ?_ (.inr (.inl rfl)) _
     refine (hx1.alloc (.cells #[.int .i64 an,.int .i64 ar,.int .i64 bn,.int .i64 br,.string nm,.string vl] 58)).andThen (T:=fun b=>(Value.slice va L.length vc).ownBlock=some b) ?_ (fun b _ hb=>.inr hb)
     exact ⟨hx6.os,hx6.tape,hx6.output,hx6.size,hx6.block⟩
    have HF:=Lib.hid hfin
    have HF2:=Lib.hid hx2
    clear hfin hx1 hx2 hown6 hx6 hb6 g1 g2 hX y1 own2 hb2 f0 hb1 c0' k0' k1' k2' k3'
    go_wp2_with fail
    go_ret
    exact .inr ⟨HH.out,rfl,HF.out,HF2.out⟩
def YN (L:List Za) (a:St):Int:=if Z7 a=false then 1 else if XD L a=true then 151 else 0
def Wg (L:List Za) (x:Za):List Za:=if YN L x.at_=0 then L++[x] else L
theorem Z2q (r B:Nat) (v:Value) (L:List Za) (x:Za) (w:World) (hb:w.heap[r]?=some (.cells #[v] 81 (0,0))) (hown:Own Za.cells 6 58 B w v L) (hB:B≤w.heap.size) (hsz:L.length≤1000) :
  Calls Tryz.prog 36 #[.pointer (some ⟨r,0,none⟩),.agg #[.int .i64 x.at_.n,.int .i64 x.at_.r],.agg #[.int .i64 x.blk.n,.int .i64 x.blk.r],.string x.name,.string x.value] w
   fun e w'=>e=.returned (.int .i64 (YN L x.at_))∧WT w' r B (Wg L x)∧Ext (fun k=>k=r∨v.ownBlock=some k) w w':=by
 by_cases hr:Z7 x.at_=true
 ·refine (Z3i r B v L x.at_.n x.at_.r x.blk.n x.blk.r x.name x.value w hb hown hB hsz hr).mono ?_
  rintro e w' (⟨h1,rfl,h2⟩|⟨h1,rfl,h2,h3⟩)
  ·have h1':XD L x.at_=true:=h1
   have e1:YN L x.at_=151:=by simp[YN,hr,h1']
   rw[Wg,e1]
   exact ⟨rfl,WT.below ⟨v,hb,hown⟩ h2,Ext.of_below h2⟩
  ·have h1':XD L x.at_=false:=h1
   have e1:YN L x.at_=0:=by simp[YN,hr,h1']
   rw[Wg,e1]
   exact ⟨rfl,h2,h3⟩
 ·have hr':Z7 x.at_=false:=by simpa using hr
  refine (Z2C r x.at_.n x.at_.r x.blk.n x.blk.r x.name x.value w hr').mono ?_
  rintro e w' ⟨rfl,h2⟩
  have e1:YN L x.at_=1:=by simp[YN,hr']
  rw[Wg,e1]
  exact ⟨rfl,WT.below ⟨v,hb,hown⟩ h2,Ext.of_below h2⟩
def Xe (p:Pl) (acc:Option Wr) (y:Za):Option Wr:=if y.pl=p∧0<Yc y.at_ (XL acc) then some ⟨y.at_,y.value⟩ else acc
def Zz (L:List Za) (p:Pl):Option Wr:=L.foldl (Xe p) none
theorem Wz (L:List Za) (y:Za) (p:Pl):Zz (L++[y]) p=Xe p (Zz L p) y:=by simp[Zz]
theorem RX {L:List Za} {k:Nat} {y:Za} (h:L[k]?=some y) (p:Pl):Zz (L.take (k+1)) p=Xe p (Zz (L.take k) p) y:=by rw[Ui h,Wz]
theorem ST (L:List Za) (hr:∀ x∈L,Z7 x.at_=true) (p:Pl):∀ x,Zz L p=some x→Z7 x.at_=true:=by
 refine WP (p:=fun L=>(∀ x∈L,Z7 x.at_=true)→∀ x,Zz L p=some x→Z7 x.at_=true) ?_ ?_ L hr
 ·intro _ x h;cases h
 ·intro L y ih hr x h
  rw[Wz,Xe] at h
  split at h
  ·cases h;exact hr y (by simp)
  ·exact ih (fun z hz=>hr z (by simp[hz])) x h
theorem Z0Z {w:World} {r:Nat} {a b c d:Value} {t:TypeId} (h:w.heap[r]?=some (.cells #[a,b] t (0,0))):((w.setCell ⟨r,0,none⟩ c).setCell ⟨r,1,none⟩ d).heap[r]?=some (.cells #[c,d] t (0,0)):=by
 simp[World.setCell,Array.getElem?_modify,h]
theorem Sk {w:World} {r:Nat} {a b:Value} {t:TypeId} (h:w.heap[r]?=some (.cells #[a,b] t (0,0))):w.cell? ⟨r,0,none⟩=some a∧w.cell? ⟨r,1,none⟩=some b∧w.frozen? ⟨r,0,none⟩=false∧w.frozen? ⟨r,1,none⟩=false:=by
 simp[World.cell?,World.frozen?,h]
theorem SP {w:World} (o:Obj) {n:Nat} (h:n=w.heap.size):(w.alloc o).heap[n]?=some o:=by
 subst h
 show (w.heap.push o)[w.heap.size]?=_
 simp
theorem Z2L (r B:Nat) (L:List Za) (bn br:Int) (nm:ByteArray) (w:World) (h:WT w r B L) (hsz:L.length≤1000) (hri:∀ x∈L,Z7 x.at_=true) :
  Calls Tryz.prog 133 #[.pointer (some ⟨r,0,none⟩),.agg #[.int .i64 bn,.int .i64 br],.string nm] w
   fun e w'=>e=.returned (.tuple #[.string (TC (Zz L ⟨⟨bn,br⟩,nm⟩)),.bool (Zz L ⟨⟨bn,br⟩,nm⟩).isSome])∧Below w.heap.size w w':=by
 obtain ⟨v,hb,hown⟩:=h
 obtain ⟨va,vc,rfl,hcap,hmax,hcs⟩:=hown.slice (fun _=>rfl)
 unfold maxLen at hmax
 have c0:=We hb
 have hrl:r<w.heap.size:=Zj c0
 have HC:=Lib.hid hcs
 have HRI:=Lib.hid hri
 clear hb hown hcs hri
 go_enter Tryz.func133,Tryz.ntmps133
 go_wp2_with fail
 go_loopg [9,10] L.length (fun g s i wx=>∃ k:Nat,g=L.length - k∧k≤L.length∧i=.int .i64 k∧s=.string (TC (Zz (L.take k) ⟨⟨bn,br⟩,nm⟩)) ∧
  wx.heap[w.heap.size+1]?=some (.cells #[.int .i64 (XL (Zz (L.take k) ⟨⟨bn,br⟩,nm⟩)).n,.int .i64 (XL (Zz (L.take k) ⟨⟨bn,br⟩,nm⟩)).r] 23 (0,0)) ∧
  wx.cell? ⟨w.heap.size,0,none⟩=some (.int .i64 bn)∧wx.cell? ⟨w.heap.size,1,none⟩=some (.int .i64 br)∧Below w.heap.size w wx)
 case atStart =>
  refine ⟨0,rfl,Nat.zero_le _,rfl,rfl,?_,by go_simp,by go_simp,((Below.refl _ _).alloc (Nat.le_refl _) _).alloc (by simp) _⟩
  exact SP _ (by simp)
 case round =>
  obtain ⟨k,hg,hk,rfl,rfl,hbx,q0,q1,hB⟩:=hrel
  have HG:=Lib.hid hg
  clear hg
  have c0':=Z0 hB c0
  generalize hrb:Zz (L.take k) ⟨⟨bn,br⟩,nm⟩=rb at *
  have HRB:=Lib.hid hrb
  clear hrb
  obtain ⟨l0,l1,l2,l3⟩:=Sk hbx
  by_cases hlt:k<L.length
  ·obtain ⟨x,hx⟩:∃ x,L[k]?=some x:=⟨_,List.getElem?_eq_getElem hlt⟩
   obtain ⟨bs,os,rfl,hcc⟩:=HC.out (by intro e;rw[e] at hlt;simp at hlt)
   have x0:wr.cell? ⟨bs,os+k*6,none⟩=some (.int .i64 x.at_.n):=Z0 hB (hcc k x hx 0 _ rfl)
   have x1:wr.cell? ⟨bs,os+k*6+1,none⟩=some (.int .i64 x.at_.r):=Z0 hB (hcc k x hx 1 _ rfl)
   have x2:wr.cell? ⟨bs,os+k*6+2,none⟩=some (.int .i64 x.blk.n):=Z0 hB (hcc k x hx 2 _ rfl)
   have x3:wr.cell? ⟨bs,os+k*6+3,none⟩=some (.int .i64 x.blk.r):=Z0 hB (hcc k x hx 3 _ rfl)
   have x4:wr.cell? ⟨bs,os+k*6+4,none⟩=some (.string x.name):=Z0 hB (hcc k x hx 4 _ rfl)
   have x5:wr.cell? ⟨bs,os+k*6+5,none⟩=some (.string x.value):=Z0 hB (hcc k x hx 5 _ rfl)
   have hst:=RX hx (⟨⟨bn,br⟩,nm⟩:Pl)
   rw[HRB.out] at hst
   have HST:=Lib.hid hst
   have zz:=Zj q0
   have zz2:w.heap.size+1<wr.heap.size:=Zj l0
   clear hx hcc hst
   by_cases hbk:x.blk=⟨bn,br⟩
   ·have e1:x.blk.n=bn:=by rw[hbk]
    have e2:x.blk.r=br:=by rw[hbk]
    rw[e1] at x2
    rw[e2] at x3
    by_cases hnm:x.name.toList=nm.toList
    ·have hn1:(x.name.toList == nm.toList)=true:=by simp[hnm]
     have hpl:x.pl=⟨⟨bn,br⟩,nm⟩:=by rw[Za.pl,hbk,(ZS _ _).1 hnm]
     have HP:=Lib.hid hpl
     clear hnm hpl hbk e1 e2
     by_cases hc:0<Yc x.at_ (XL rb)
     ·have hs2:Zz (L.take (k+1)) ⟨⟨bn,br⟩,nm⟩=some ⟨x.at_,x.value⟩:=by rw[HST.out,Xe,if_pos ⟨HP.out,hc⟩]
      have HS2:=Lib.hid hs2
      have hc':0<Yc ⟨x.at_.n,x.at_.r⟩ ⟨(XL rb).n,(XL rb).r⟩:=hc
      clear hs2 hc
      go_wp2_with fail
      refine (X1 _ _ _ _ _).mono ?_
      rintro e w5 ⟨rfl,b5⟩
      have hb5:=(b5.block _ (by simp;omega)).trans ((Below.heap_alloc wr (.cells #[.int .i64 x.at_.n,.int .i64 x.at_.r,.int .i64 bn,.int .i64 br,.string x.name,.string x.value] 58) _ zz2).trans hbx)
      obtain ⟨m0,m1,m2,m3⟩:=Sk hb5
      have i0:w5.cell? ⟨wr.heap.size,0,none⟩=some (.int .i64 x.at_.n):=Z0 b5 (by go_simp)
      have i1:w5.cell? ⟨wr.heap.size,1,none⟩=some (.int .i64 x.at_.r):=Z0 b5 (by go_simp)
      have i5:w5.cell? ⟨wr.heap.size,5,none⟩=some (.string x.value):=Z0 b5 (by go_simp)
      have p0:=Z0 b5 (Z1 q0 (.cells #[.int .i64 x.at_.n,.int .i64 x.at_.r,.int .i64 bn,.int .i64 br,.string x.name,.string x.value] 58))
      have p1:=Z0 b5 (Z1 q1 (.cells #[.int .i64 x.at_.n,.int .i64 x.at_.r,.int .i64 bn,.int .i64 br,.string x.name,.string x.value] 58))
      have hB5:Below w.heap.size w w5:=(hB.alloc hB.size (.cells #[.int .i64 x.at_.n,.int .i64 x.at_.r,.int .i64 bn,.int .i64 br,.string x.name,.string x.value] 58)).trans (b5.mono (by have:=hB.size;simp;omega))
      have zz5:wr.heap.size<w5.heap.size:=Zj i0
      clear b5 x0 x1 x2 x3 x4 x5 q0 q1 l0 l1 l2 l3 hbx c0' hB
      go_wp2_with fail
      go_roundg (L.length - (k+1))
      case measure=>rw[HG.out];omega
      case rel =>
       refine ⟨k+1,rfl,hlt,by go_num,by rw[HS2.out];rfl,?_,?_,?_,?_⟩
       ·rw[HS2.out];exact Z0Z hb5
       ·exact (((Ext.refl (·=w.heap.size+1) w5).setCell (p:=⟨w.heap.size+1,0,none⟩) (.inr rfl) _).setCell (p:=⟨w.heap.size+1,1,none⟩) (.inr rfl) _).keep p0 (by omega)
       ·exact (((Ext.refl (·=w.heap.size+1) w5).setCell (p:=⟨w.heap.size+1,0,none⟩) (.inr rfl) _).setCell (p:=⟨w.heap.size+1,1,none⟩) (.inr rfl) _).keep p1 (by omega)
       ·exact (hB5.setCell (by simp) _).setCell (by simp) _
     ·have hs2:Zz (L.take (k+1)) ⟨⟨bn,br⟩,nm⟩=rb:=by rw[HST.out,Xe,if_neg (fun h=>hc h.2)]
      have HS2:=Lib.hid hs2
      have hc':Yc ⟨x.at_.n,x.at_.r⟩ ⟨(XL rb).n,(XL rb).r⟩≤0:=Int.not_lt.1 hc
      clear hs2 hc
      go_wp2_with fail
      refine (X1 _ _ _ _ _).mono ?_
      rintro e w5 ⟨rfl,b5⟩
      have hb5:=(b5.block _ (by simp;omega)).trans ((Below.heap_alloc wr (.cells #[.int .i64 x.at_.n,.int .i64 x.at_.r,.int .i64 bn,.int .i64 br,.string x.name,.string x.value] 58) _ zz2).trans hbx)
      have p0:=Z0 b5 (Z1 q0 (.cells #[.int .i64 x.at_.n,.int .i64 x.at_.r,.int .i64 bn,.int .i64 br,.string x.name,.string x.value] 58))
      have p1:=Z0 b5 (Z1 q1 (.cells #[.int .i64 x.at_.n,.int .i64 x.at_.r,.int .i64 bn,.int .i64 br,.string x.name,.string x.value] 58))
      have hB5:Below w.heap.size w w5:=(hB.alloc hB.size (.cells #[.int .i64 x.at_.n,.int .i64 x.at_.r,.int .i64 bn,.int .i64 br,.string x.name,.string x.value] 58)).trans (b5.mono (by have:=hB.size;simp;omega))
      clear b5 x0 x1 x2 x3 x4 x5 q0 q1 l0 l1 l2 l3 hbx c0' hB
      go_wp2_with fail
      go_roundg (L.length - (k+1))
      case measure=>rw[HG.out];omega
      case rel=>exact ⟨k+1,rfl,hlt,by go_num,by rw[HS2.out],by rw[HS2.out];exact hb5,p0,p1,hB5⟩
    ·have hs2:Zz (L.take (k+1)) ⟨⟨bn,br⟩,nm⟩=rb:=by
      rw[HST.out,Xe,if_neg]
      rintro ⟨h1,_⟩
      rw[Za.pl] at h1
      exact hnm (by rw[(Pl.mk.inj h1).2])
     have HS2:=Lib.hid hs2
     have hn1:(x.name.toList == nm.toList)=false:=by simp[hnm]
     clear hs2 hnm hbk e1 e2
     go_wp2_with fail
     go_roundg (L.length - (k+1))
     case measure=>rw[HG.out];omega
     case rel=>exact ⟨k+1,rfl,hlt,by go_num,by rw[HS2.out],by rw[HS2.out,Below.heap_alloc _ _ _ zz2];exact hbx,Z1 q0 _,Z1 q1 _,hB.alloc hB.size _⟩
   ·have hs2:Zz (L.take (k+1)) ⟨⟨bn,br⟩,nm⟩=rb:=by
     rw[HST.out,Xe,if_neg]
     rintro ⟨h1,_⟩
     rw[Za.pl] at h1
     exact hbk (Pl.mk.inj h1).1
    have HS2:=Lib.hid hs2
    clear hs2
    by_cases e1:x.blk.n=bn
    ·have e2:¬ x.blk.r=br:=fun e2=>hbk (TX e1 e2)
     clear hbk
     go_wp2_with fail
     go_roundg (L.length - (k+1))
     case measure=>rw[HG.out];omega
     case rel=>exact ⟨k+1,rfl,hlt,by go_num,by rw[HS2.out],by rw[HS2.out,Below.heap_alloc _ _ _ zz2];exact hbx,Z1 q0 _,Z1 q1 _,hB.alloc hB.size _⟩
    ·clear hbk
     go_wp2_with fail
     go_roundg (L.length - (k+1))
     case measure=>rw[HG.out];omega
     case rel=>exact ⟨k+1,rfl,hlt,by go_num,by rw[HS2.out],by rw[HS2.out,Below.heap_alloc _ _ _ zz2];exact hbx,Z1 q0 _,Z1 q1 _,hB.alloc hB.size _⟩
  ·obtain rfl:k=L.length:=by omega
   rw[List.take_length] at HRB
   have HRR:Hid (∀ x,rb=some x→Z7 x.at_=true):=fun x hx=>ST L HRI.out _ x (HRB.out.trans hx)
   cases rb with
   | none =>
    simp only[XL] at l0 l1
    go_wp2_with fail
    go_quiet (fail)
    go_wp2_with fail
    go_ret2
    exact ⟨by rw[HRB.out];rfl,below_drewN hB _⟩
   | some y =>
    have hpos:=UF (HRR.out y rfl)
    have hn:¬ y.at_.n=0:=by
     have:=HRR.out y rfl
     simp only[Z7,decide_eq_true_eq] at this
     omega
    simp only[XL] at l0 l1
    clear hpos HRR
    go_wp2_with fail
    go_quiet (fail)
    go_wp2_with fail
    go_ret2
    exact ⟨by rw[HRB.out];rfl,below_drewN hB _⟩
theorem Z1S (l:List Atr) (i:Nat) (x:Atr) (hi:i<l.length):((l.flatMap Atr.cells).set (i*2) (.string x.name)).set (i*2+1) (.string x.value)=(l.set i x).flatMap Atr.cells:=by
 induction l generalizing i with
 | nil=>simp at hi
 | cons y l ih =>
  cases i with
  | zero=>simp[Atr.cells]
  | succ i =>
   have:=ih i (by simpa using hi)
   rw[List.set_cons_succ,List.flatMap_cons,List.flatMap_cons,←this]
   show (([.string y.name,.string y.value]++_:List Value).set _ _).set _ _=[.string y.name,.string y.value]++_
   rw[show (i+1)*2=i*2+1+1 from by omega]
   rfl
theorem Z2t {base:Nat} {w:World} {g cap:Nat} {l:List Atr} (h:Own Atr.cells 2 73 base w (.slice (some ⟨g,0,none⟩) l.length cap) l) (i:Nat) (x:Atr) (hi:i<l.length) :
  Own Atr.cells 2 73 base ((w.setCell ⟨g,i*2,none⟩ (.string x.name)).setCell ⟨g,i*2+1,none⟩ (.string x.value)) (.slice (some ⟨g,0,none⟩) l.length cap) (l.set i x):=by
 have h1:=(World.ownsRow.stored h (i*2) (.string x.name)).1
 have h2:=(World.ownsRow.stored h1 (i*2+1) (.string x.value)).1
 unfold Own
 rw[←Z1S l i x hi,List.length_set]
 exact h2
def Y7 (O:List Atr) (a:Atr) (k:Nat):List Atr:=O.take k++a :: O.drop k
theorem WX (O:List Atr) (a:Atr) (k:Nat) (h:k≤O.length):(Y7 O a k).length=O.length+1:=by
 simp[Y7];omega
theorem Ug (O:List Atr) (a:Atr) (k:Nat) (h:k≤O.length):(Y7 O a k)[k]?=some a:=by
 rw[Y7,List.getElem?_append_right (by simp;omega)]
 simp[Nat.min_eq_left h]
theorem WD (O:List Atr) (a:Atr) (k:Nat) (h:k<O.length):(Y7 O a (k+1))[k]?=O[k]?:=by
 rw[Y7,List.getElem?_append_left (by simp;omega),List.getElem?_take,if_pos (by omega)]
theorem Z0T (O:List Atr) (a c:Atr) (k:Nat) (h:O[k]?=some c):((Y7 O a (k+1)).set (k+1) c).set k a=Y7 O a k:=by
 obtain ⟨hk,hc⟩:=List.getElem?_eq_some_iff.1 h
 have hlen:k<O.length:=hk
 refine List.ext_getElem? fun j=>?_
 have e1:O.drop k=c :: O.drop (k+1):=by rw[List.drop_eq_getElem_cons hk,hc]
 have e2:O.take (k+1)=O.take k++[c]:=by rw[List.take_succ_eq_append_getElem hk,hc]
 have e3:Y7 O a (k+1)=O.take k++[c,a]++O.drop (k+1):=by simp[Y7,e2]
 have e4:Y7 O a k=O.take k++[a,c]++O.drop (k+1):=by simp[Y7,e1]
 have hl:(O.take k).length=k:=by simp;omega
 rw[e3,e4,List.append_assoc,List.set_append_right _ _ (by rw[hl];omega),hl,List.set_append_right _ _ (by rw[hl];omega),hl]
 simp
theorem UH {O:List Atr} {a:Atr} {k:Nat} (hk:k≤O.length) (hO:O.Pairwise (fun x y=>x.name.toList<y.name.toList)) (hd:∀ x∈O.drop k,a.name.toList<x.name.toList) (ht:∀ x∈O.take k,x.name.toList<a.name.toList) :
  (Y7 O a k).Pairwise (fun x y=>x.name.toList<y.name.toList):=by
 unfold Y7
 have h0:=hO
 rw[←List.take_append_drop k O,List.pairwise_append] at h0
 rw[List.pairwise_append,List.pairwise_cons]
 refine ⟨h0.1,⟨hd,h0.2.1⟩,fun x hx y hy=>?_⟩
 rcases List.mem_cons.1 hy with rfl|hy
 ·exact ht x hx
 ·exact h0.2.2 x hx y hy
theorem Ss {O:List Atr} {a x:Atr} {k:Nat}:x∈Y7 O a k↔x=a∨x∈O:=by
 unfold Y7
 rw[List.mem_append,List.mem_cons]
 have:=List.take_append_drop k O
 constructor
 ·rintro (h|h|h)
  ·exact .inr (List.mem_of_mem_take h)
  ·exact .inl h
  ·exact .inr (List.mem_of_mem_drop h)
 ·rintro (h|h)
  ·exact .inr (.inl h)
  ·rw[←this,List.mem_append] at h
   exact h.elim .inl (fun h=>.inr (.inr h))
structure VL (L:List Za) (b:St) (k:Nat) (O:List Atr):Prop where
 rising:O.Pairwise (fun x y=>x.name.toList<y.name.toList)
 mem:∀ a,a∈O↔(∃ y∈L.take k,y.blk=b∧y.name=a.name)∧a.value=TC (Zz L ⟨b,a.name⟩)
theorem VL.skip {L:List Za} {b:St} {k:Nat} {O:List Atr} (h:VL L b k O) {y:Za} (hy:L[k]?=some y) (hn:y.blk≠b∨∃ a∈O,a.name=y.name):VL L b (k+1) O:=by
 refine ⟨h.rising,fun a=>?_⟩
 rw[h.mem a,Ui hy]
 constructor
 ·rintro ⟨⟨z,hz,r⟩,e⟩;exact ⟨⟨z,by simp[hz],r⟩,e⟩
 ·rintro ⟨⟨z,hz,r1,r2⟩,e⟩
  rcases List.mem_append.1 hz with hz|hz
  ·exact ⟨⟨z,hz,r1,r2⟩,e⟩
  ·rw[List.mem_singleton.1 hz] at r1 r2
   rcases hn with hn|⟨c,hc,ec⟩
   ·exact absurd r1 hn
   ·obtain ⟨⟨u,hu,s1,s2⟩,_⟩:=(h.mem c).1 hc
    exact ⟨⟨u,hu,s1,by rw[s2,ec,r2]⟩,e⟩
theorem VL.ins {L:List Za} {b:St} {k:Nat} {O:List Atr} (h:VL L b k O) {y:Za} (hy:L[k]?=some y) (hb:y.blk=b) {j:Nat} (hj:j≤O.length)
  (hd:∀ x∈O.drop j,y.name.toList<x.name.toList) (ht:∀ x∈O.take j,x.name.toList<y.name.toList):VL L b (k+1) (Y7 O ⟨y.name,TC (Zz L ⟨b,y.name⟩)⟩ j):=by
 refine ⟨UH hj h.rising hd ht,fun a=>?_⟩
 rw[Ss,h.mem a,Ui hy]
 constructor
 ·rintro (rfl|⟨⟨z,hz,r⟩,e⟩)
  ·exact ⟨⟨y,by simp,hb,rfl⟩,rfl⟩
  ·exact ⟨⟨z,by simp[hz],r⟩,e⟩
 ·rintro ⟨⟨z,hz,r1,r2⟩,e⟩
  rcases List.mem_append.1 hz with hz|hz
  ·exact .inr ⟨⟨z,hz,r1,r2⟩,e⟩
  ·rw[List.mem_singleton.1 hz] at r1 r2
   left
   cases a
   simp only at r2 e
   rw[e,r2]
theorem Vo {L:List Za} (hr:∀ x∈L,Z7 x.at_=true) (p:Pl):(Zz L p).isSome=true↔∃ y∈L,y.pl=p:=by
 refine WP (p:=fun L=>(∀ x∈L,Z7 x.at_=true)→((Zz L p).isSome=true↔∃ y∈L,y.pl=p)) ?_ ?_ L hr
 ·intro _;simp[Zz]
 ·intro L y ih hr
  have ih:=ih (fun x hx=>hr x (by simp[hx]))
  rw[Wz,Xe]
  split
  ·rename_i h
   simp only[Option.isSome_some,true_iff]
   exact ⟨y,by simp,h.1⟩
  ·rename_i h
   rw[ih]
   constructor
   ·rintro ⟨z,hz,e⟩;exact ⟨z,by simp[hz],e⟩
   ·rintro ⟨z,hz,e⟩
    rcases List.mem_append.1 hz with hz|hz
    ·exact ⟨z,hz,e⟩
    ·rw[List.mem_singleton.1 hz] at e
     refine ih.1 ?_
     cases hb:Zz L p with
     | some x=>rfl
     | none =>
      exfalso
      apply h
      refine ⟨e,?_⟩
      rw[hb]
      have:=UF (hr y (by simp))
      have hc:=(Wm ⟨0,0⟩ y.at_).2 this
      show 0<Yc y.at_ ⟨0,0⟩
      unfold ZI at this
      rw[show y.at_=⟨y.at_.n,y.at_.r⟩ from rfl,Tp]
      simp only at this
      rw[if_neg (by omega)]
      split
      ·omega
      ·rw[if_neg (by omega),if_pos (by omega)];omega
theorem VL.allList {L:List Za} (hr:∀ x∈L,Z7 x.at_=true) {b:St} {O:List Atr} (h:VL L b L.length O) {vs:List (Pl × Wr)} (hv:∀ p,Z5 vs p=Zz L p):Wo vs b O:=by
 refine ⟨fun a=>?_,h.rising⟩
 rw[h.mem a,List.take_length,hv]
 have hs:=Vo hr (⟨b,a.name⟩:Pl)
 constructor
 ·rintro ⟨⟨y,hy,e1,e2⟩,e⟩
  have:=hs.2 ⟨y,hy,by rw[Za.pl,e1,e2]⟩
  obtain ⟨x,hx⟩:=Option.isSome_iff_exists.1 this
  exact ⟨x,hx,by rw[e,hx];rfl⟩
 ·rintro ⟨x,hx,e⟩
  obtain ⟨y,hy,ey⟩:=hs.1 (by rw[hx];rfl)
  rw[Za.pl] at ey
  exact ⟨⟨y,hy,(Pl.mk.inj ey).1,(Pl.mk.inj ey).2⟩,by rw[hx];exact e.symm⟩
def WQ (x:Za) (b:St) (O:List Atr):Bool:=decide (x.blk=b) && O.all (fun a=>!(a.name.toList == x.name.toList))
theorem Z0t {x:Za} {b:St} {O:List Atr} {j:Nat} {a:Atr} (h:O[j]?=some a):WQ x b (O.take (j+1))=(WQ x b (O.take j) && !(a.name.toList == x.name.toList)):=by
 obtain ⟨hj,e⟩:=List.getElem?_eq_some_iff.1 h
 rw[List.take_succ_eq_append_getElem hj,e]
 simp[WQ,Bool.and_assoc]
theorem Vs {base:Nat} {w:World} {g n cap:Nat} {l:List Atr} (h:Own Atr.cells 2 73 base w (.slice (some ⟨g,0,none⟩) n cap) l) :
  n=l.length∧n≤cap∧cap≤maxLen∧g<w.heap.size∧∀ (i:Nat) (a:Atr),l[i]?=some a→w.cell? ⟨g,i*2,none⟩=some (.string a.name)∧w.cell? ⟨g,i*2+1,none⟩=some (.string a.value)∧w.frozen? ⟨g,i*2,none⟩=false∧w.frozen? ⟨g,i*2+1,none⟩=false:=by
 rcases h.eq_slice with ⟨h1,_⟩|⟨g',cap',h1,_,hlt⟩
 ·simp at h1
 ·simp only[Value.slice.injEq,Option.some.injEq,Addr.mk.injEq,and_true] at h1
  obtain ⟨rfl,rfl,rfl⟩:=h1
  obtain ⟨va,vc,hv,h2,h3,h4⟩:=h.slice (fun _=>rfl)
  simp only[Value.slice.injEq,true_and] at hv
  obtain ⟨rfl,rfl⟩:=hv
  refine ⟨rfl,h2,h3,hlt,fun i a hi=>?_⟩
  obtain ⟨b,o,he,hc⟩:=h4 (by intro e;rw[e] at hi;simp at hi)
  simp only[Option.some.injEq,Addr.mk.injEq,and_true] at he
  obtain ⟨rfl,rfl⟩:=he
  have c1:=hc i a hi 0 _ rfl
  have c2:=hc i a hi 1 _ rfl
  rw[Nat.zero_add] at c1 c2
  exact ⟨c1,c2,World.ownsRow.frozenAt h _,World.ownsRow.frozenAt h _⟩
theorem Su {base:Nat} {w:World} {g n cap:Nat} {l:List Atr} (h:Own Atr.cells 2 73 base w (.slice (some ⟨g,0,none⟩) n cap) l) (i:Nat) (x:Atr) (hi:i<l.length) :
  Own Atr.cells 2 73 base ((w.setCell ⟨g,i*2,none⟩ (.string x.name)).setCell ⟨g,i*2+1,none⟩ (.string x.value)) (.slice (some ⟨g,0,none⟩) n cap) (l.set i x):=by
 obtain ⟨rfl,_⟩:=Vs h
 exact Z2t h i x hi
theorem Ra {base:Nat} {w:World} {g n cap:Nat} {O:List Atr} {a c:Atr} {k:Nat} (h:Own Atr.cells 2 73 base w (.slice (some ⟨g,0,none⟩) n cap) (Y7 O a (k+1))) (hc:O[k]?=some c) :
  Own Atr.cells 2 73 base ((((w.setCell ⟨g,(k+1)*2,none⟩ (.string c.name)).setCell ⟨g,(k+1)*2+1,none⟩ (.string c.value)).setCell ⟨g,k*2,none⟩ (.string a.name)).setCell ⟨g,k*2+1,none⟩ (.string a.value)) (.slice (some ⟨g,0,none⟩) n cap) (Y7 O a k):=by
 have hk:=(List.getElem?_eq_some_iff.1 hc).1
 have hl:=WX O a (k+1) hk
 have h1:=Su h (k+1) c (by omega)
 have h3:=Su h1 k a (by rw[List.length_set];omega)
 rw[Z0T O a c k hc] at h3
 exact h3
theorem Z1u (r B:Nat) (L:List Za) (bn br:Int) (w:World) (h:WT w r B L) (hsz:L.length≤1000) (hri:∀ x∈L,Z7 x.at_=true) :
  Calls Tryz.prog 108 #[.pointer (some ⟨r,0,none⟩),.agg #[.int .i64 bn,.int .i64 br]] w
   fun e w'=>∃ v O,e=.returned v∧Own Atr.cells 2 73 w.heap.size w' v O∧VL L ⟨bn,br⟩ L.length O∧Below w.heap.size w w':=by
 have HREF:=Lib.hid h
 obtain ⟨i0,hi,hz0,hz1',hz2⟩:=info_parts Wq
 obtain ⟨v,hb,hown⟩:=h
 obtain ⟨va,vc,rfl,hcap,hmax,hcs⟩:=hown.slice (fun _=>rfl)
 unfold maxLen at hmax
 have c0:=We hb
 have hrl:r<w.heap.size:=Zj c0
 have HC:=Lib.hid hcs
 have HRI:=Lib.hid hri
 clear hb hown hcs hri
 go_enter Tryz.func108,Tryz.ntmps108
 go_wp2_with fail
 go_loopg [5,6] L.length (fun g s i wx=>∃ (k:Nat) (O:List Atr),g=L.length - k∧k≤L.length∧i=.int .i64 k∧O.length≤k∧Hid (VL L ⟨bn,br⟩ k O)∧Own Atr.cells 2 73 (w.heap.size+1) wx s O ∧
  wx.cell? ⟨w.heap.size,0,none⟩=some (.int .i64 bn)∧wx.cell? ⟨w.heap.size,1,none⟩=some (.int .i64 br)∧Below w.heap.size w wx)
 case atStart =>
  refine ⟨0,[],rfl,Nat.zero_le _,rfl,Nat.le_refl _,?_,Own.nil,by go_simp,by go_simp,(Below.refl _ _).alloc (Nat.le_refl _) _⟩
  exact ⟨List.Pairwise.nil,fun a=>by simp⟩
 case round =>
  obtain ⟨k,O,hg,hk,rfl,hol,hgath,hown,q0,q1,hB⟩:=hrel
  have HG:=Lib.hid hg
  clear hg
  have c0':=Z0 hB c0
  by_cases hlt:k<L.length
  ·obtain ⟨x,hx⟩:∃ x,L[k]?=some x:=⟨_,List.getElem?_eq_getElem hlt⟩
   obtain ⟨bs,os,rfl,hcc⟩:=HC.out (by intro e;rw[e] at hlt;simp at hlt)
   have x0:wr.cell? ⟨bs,os+k*6,none⟩=some (.int .i64 x.at_.n):=Z0 hB (hcc k x hx 0 _ rfl)
   have x1:wr.cell? ⟨bs,os+k*6+1,none⟩=some (.int .i64 x.at_.r):=Z0 hB (hcc k x hx 1 _ rfl)
   have x2:wr.cell? ⟨bs,os+k*6+2,none⟩=some (.int .i64 x.blk.n):=Z0 hB (hcc k x hx 2 _ rfl)
   have x3:wr.cell? ⟨bs,os+k*6+3,none⟩=some (.int .i64 x.blk.r):=Z0 hB (hcc k x hx 3 _ rfl)
   have x4:wr.cell? ⟨bs,os+k*6+4,none⟩=some (.string x.name):=Z0 hB (hcc k x hx 4 _ rfl)
   have x5:wr.cell? ⟨bs,os+k*6+5,none⟩=some (.string x.value):=Z0 hB (hcc k x hx 5 _ rfl)
   have HX:=Lib.hid hx
   have zz:=Zj q0
   clear hx hcc
   have p0:=Z1 q0 (.cells #[.int .i64 x.at_.n,.int .i64 x.at_.r,.int .i64 x.blk.n,.int .i64 x.blk.r,.string x.name,.string x.value] 58)
   have p1:=Z1 q1 (.cells #[.int .i64 x.at_.n,.int .i64 x.at_.r,.int .i64 x.blk.n,.int .i64 x.blk.r,.string x.name,.string x.value] 58)
   obtain ⟨oa,oc,rfl,hocap,homax,hocs⟩:=hown.slice (fun _=>rfl)
   unfold maxLen at homax
   have HOC:=Lib.hid hocs
   clear hocs
   have hB1:=hB.alloc hB.size (.cells #[.int .i64 x.at_.n,.int .i64 x.at_.r,.int .i64 x.blk.n,.int .i64 x.blk.r,.string x.name,.string x.value] 58)
   have hown1:=hown.alloc (.cells #[.int .i64 x.at_.n,.int .i64 x.at_.r,.int .i64 x.blk.n,.int .i64 x.blk.r,.string x.name,.string x.value] 58)
   obtain ⟨W1,hW⟩:∃ W1,W1=wr.alloc (.cells #[.int .i64 x.at_.n,.int .i64 x.at_.r,.int .i64 x.blk.n,.int .i64 x.blk.r,.string x.name,.string x.value] 58):=⟨_,rfl⟩
   rw[←hW] at p0 p1 hB1 hown1
   have HW:=Lib.hid hW
   have n4:W1.cell? ⟨wr.heap.size,4,none⟩=some (.string x.name):=by rw[hW];go_simp
   clear hW
   by_cases hbk:x.blk=⟨bn,br⟩
   ·have e1:x.blk.n=bn:=by rw[hbk]
    have e2:x.blk.r=br:=by rw[hbk]
    have HE:=Lib.hid hbk
    have hsp:WQ x ⟨bn,br⟩ (O.take 0)=true:=by simp[WQ,hbk]
    have HSP:=Lib.hid hsp
    rw[e1] at x2
    rw[e2] at x3
    rw[e1,e2] at HW
    clear hbk e1 e2 hsp
    go_wp2_with fail
    go_loopg [8,9] O.length (fun g nw kk wy=>∃ j:Nat,g=O.length - j∧j≤O.length∧kk=.int .i64 j∧nw=.bool (WQ x ⟨bn,br⟩ (O.take j))∧Below W1.heap.size W1 wy)
    case atStart=>exact ⟨0,rfl,Nat.zero_le _,rfl,by rw[HSP.out],by rw[HW.out];exact Below.refl _ _⟩
    case round =>
     obtain ⟨j,hj0,hj,rfl,rfl,hY⟩:=hrel
     have HJ:=Lib.hid hj0
     clear hj0
     have n4':=Z0 hY n4
     by_cases hjl:j<O.length
     ·obtain ⟨a,ha⟩:∃ a,O[j]?=some a:=⟨_,List.getElem?_eq_getElem hjl⟩
      have hst:=Z0t (x:=x) (b:=⟨bn,br⟩) ha
      obtain ⟨ob,oo,rfl,hoc⟩:=HOC.out (by intro e;rw[e] at hjl;simp at hjl)
      have a0:wr.cell? ⟨ob,oo+j*2,none⟩=some (.string a.name):=Z0 hY (by rw[HW.out];exact Z1 (hoc j a ha 0 _ rfl) _)
      generalize WQ x ⟨bn,br⟩ (O.take j)=nb at *
      cases nb with
      | false =>
       have HST:=Lib.hid hst
       clear hst hoc ha
       go_wp2_with fail
       go_quiet (fail)
       go_wp2_with fail
       go_roundg (O.length - (j+1))
       case measure=>rw[HJ.out];omega
       case rel=>exact ⟨j+1,rfl,hjl,by go_num,by rw[HST.out];rfl,below_drewN hY _⟩
      | true =>
       by_cases hnm:a.name.toList=x.name.toList
       ·have hn1:(a.name.toList == x.name.toList)=true:=by simp[hnm]
        rw[hn1] at hst
        have HST:=Lib.hid hst
        clear hst hoc ha hnm
        go_wp2_with fail
        go_quiet (fail)
        go_wp2_with fail
        go_roundg (O.length - (j+1))
        case measure=>rw[HJ.out];omega
        case rel=>exact ⟨j+1,rfl,hjl,by go_num,by rw[HST.out];rfl,below_drewN hY _⟩
       ·have hn1:(a.name.toList == x.name.toList)=false:=by simp[hnm]
        rw[hn1] at hst
        have HST:=Lib.hid hst
        clear hst hoc ha hnm
        go_wp2_with fail
        go_quiet (fail)
        go_wp2_with fail
        go_roundg (O.length - (j+1))
        case measure=>rw[HJ.out];omega
        case rel=>exact ⟨j+1,rfl,hjl,by go_num,by rw[HST.out];rfl,below_drewN hY _⟩
     ·obtain rfl:j=O.length:=by omega
      rw[List.take_length]
      generalize hnb:WQ x ⟨bn,br⟩ O=nb at *
      have HNB:=Lib.hid hnb
      clear hnb
      cases nb with
      | false =>
       go_wp2_with fail
       go_roundg (L.length - (k+1))
       case measure=>rw[HG.out];omega
       case rel =>
        refine ⟨k+1,O,rfl,hlt,by go_num,by omega,hgath.out.skip HX.out (.inr ?_),hown1.ext (Ext.of_below (S:=fun _=>False) hY) (fun _ _ h=>h),Z0 hY p0,Z0 hY p1,hB1.trans (hY.mono hB1.size)⟩
        have:=HNB.out
        rw[WQ,HE.out] at this
        simp only[decide_true,Bool.true_and,List.all_eq_false,Bool.not_eq_true,Bool.not_eq_false',beq_iff_eq] at this
        obtain ⟨a,ha,e⟩:=this
        exact ⟨a,ha,(ZS _ _).1 e⟩
      | true =>
       have hBy:Below w.heap.size w wr:=hB1.trans (hY.mono hB1.size)
       have hlnew:∀ a∈O,a.name.toList≠x.name.toList:=by
        have:=HNB.out
        rw[WQ] at this
        simp only[Bool.and_eq_true,List.all_eq_true,Bool.not_eq_true',beq_eq_false_iff_ne] at this
        exact this.2
       have HLN:=Lib.hid hlnew
       clear hlnew
       have y0:=Z0 hY p0
       have y1:=Z0 hY p1
       go_wp2_with fail
       refine (Z2L r B L bn br x.name wr (HREF.out.below hBy) hsz HRI.out).mono ?_
       rintro e w5 ⟨rfl,b5⟩
       generalize hvl:TC (Zz L ⟨⟨bn,br⟩,x.name⟩)=vl
       generalize (Zz L ⟨⟨bn,br⟩,x.name⟩).isSome=sm
       have HVL:=Lib.hid hvl
       have g4:=Z0 b5 n4'
       have g0:=Z0 b5 y0
       have g1:=Z0 b5 y1
       have hown5:=(hown1.ext (Ext.of_below (S:=fun _=>False) hY) (fun _ _ h=>h)).ext (Ext.of_below (S:=fun _=>False) b5) (fun _ _ h=>h)
       have hB5:Below w.heap.size w w5:=hBy.trans (b5.mono hBy.size)
       have zz5:=Zj g0
       clear hvl y0 y1 x0 x1 x2 x3 x4 x5 p0 p1 n4 n4' hBy b5 hY c0' hB hB1 hown hown1 zz HOC
       go_wp2_with (at_builtin;refine Zo rfl _ _ _ rfl i0 (.agg #[.string ⟨#[]⟩,.string ⟨#[]⟩]) 32 Tryz.underlying24 hi hz0 hz1' hz2 rfl (by omega) (fun _=>rfl) (fun x u hu=>by simp[Atr.cells] at hu;rcases hu with rfl|rfl <;> rfl) rfl (hown5.alloc _) ⟨x.name,vl⟩ w5.heap.size 1 rfl ?_ (by unfold maxLen;omega) (by omega) (by simp;omega) ?_)
       ·intro j u hj
        have hju:(j=0∧u=.string x.name)∨(j=1∧u=.string vl):=by
         match j,hj with
         | 0,hj=>simp[Atr.cells] at hj;exact .inl ⟨rfl,hj.symm⟩
         | 1,hj=>simp[Atr.cells] at hj;exact .inr ⟨rfl,hj.symm⟩
         | n+2,hj=>simp[Atr.cells] at hj
        rcases hju with ⟨rfl,rfl⟩|⟨rfl,rfl⟩ <;> go_simp
       ·intro v' w6 hown6 hx6
        have hne:∀ b,(Value.slice oa O.length oc).ownBlock=some b→w.heap.size+1≤b:=fun b hb=>(hown5.blk b hb).1
        have t0:=hx6.keep (Z1 g0 _) (fun e=>by have:=hne _ e;omega)
        have t1:=hx6.keep (Z1 g1 _) (fun e=>by have:=hne _ e;omega)
        have hB6:Below w.heap.size w w6:=Ext.new (hB5.alloc (by omega) _) hx6 (fun b hb _ e=>by have:=hne _ e;omega) (by simp;omega)
        obtain ⟨g6,cp6,rfl,hg6⟩:∃ g c,v'=.slice (some ⟨g,0,none⟩) (O.length+1) c∧w.heap.size+1≤g:=by
         rcases hown6.eq_slice with ⟨_,h⟩|⟨g,c,h,h2,_⟩
         ·simp at h
         ·exact ⟨g,c,by simpa using h,h2⟩
        clear hx6 g0 g1 g4 hown5 hB5 hne
        clear q0 q1 HC HSP HW HJ HNB
        have hins:O++[⟨x.name,vl⟩]=Y7 O ⟨x.name,vl⟩ O.length:=by simp[Y7]
        rw[hins] at hown6
        clear hins
        go_wp2_with fail
        go_loopg [12] O.length (fun g kk wz=>∃ j:Nat,g=j∧j≤O.length∧kk=.int .i64 j∧Hid (∀ y∈O.drop j,x.name.toList<y.name.toList)∧Own Atr.cells 2 73 (w.heap.size+1) wz (.slice (some ⟨g6,0,none⟩) (O.length+1) cp6) (Y7 O ⟨x.name,vl⟩ j)∧wz.cell? ⟨w.heap.size,0,none⟩=some (.int .i64 bn)∧wz.cell? ⟨w.heap.size,1,none⟩=some (.int .i64 br)∧Below w.heap.size w wz)
        case atStart=>exact ⟨O.length,rfl,Nat.le_refl _,by go_num,fun y hy=>by simp at hy,hown6,t0,t1,hB6⟩
        case round =>
         obtain ⟨j,hjg,hj,rfl,hdrop,hown7,r0,r1,hB7⟩:=hrel
         have HJG:=Lib.hid hjg
         clear hjg
         obtain ⟨-,hcap7,hmax7,hg7,hcells7⟩:=Vs hown7
         unfold maxLen at hmax7
         cases j with
         | zero =>
          clear hcells7
          go_wp2_with fail
          go_quiet (fail)
          go_wp2_with fail
          go_roundg (L.length - (k+1))
          case measure=>rw[HG.out];omega
          case rel =>
           refine ⟨k+1,_,rfl,hlt,by go_num,?_,hgath.out.ins HX.out HE.out (j:=0) (Nat.zero_le _) hdrop.out (fun y hy=>by simp at hy),?_,r0,r1,below_drewN hB7 _⟩
           ·rw[WX _ _ _ (Nat.zero_le _)];omega
           ·rw[HVL.out];exact hown7
         | succ j =>
          obtain ⟨c,hc⟩:∃ c,O[j]?=some c:=⟨_,List.getElem?_eq_getElem hj⟩
          obtain ⟨s0,s1,s2,s3⟩:=hcells7 (j+1) _ (Ug O _ (j+1) hj)
          obtain ⟨s4,s5,s6,s7⟩:=hcells7 j c ((WD O _ j hj).trans hc)
          simp only at s0 s1
          have HC:=Lib.hid hc
          have hne:¬ g6=wr.heap.size:=by omega
          clear hcells7 hc
          by_cases hcl:x.name.toList<c.name.toList
          ·have hcl':Op.bytesLess x.name.toList c.name.toList=true:=by rw[bytesLess_eq];simpa using hcl
           have HCL:=Lib.hid hcl
           clear hcl
           go_wp2_with fail
           go_quiet (fail)
           have hbq:Below wr.heap.size wr (wr.drewN nq):=below_drewN (Below.refl _ _) _
           have hown8:=hown7.ext (Ext.of_below (S:=fun _=>False) hbq) (fun _ _ h=>h)
           have r0':=Z0 hbq r0
           have r1':=Z0 hbq r1
           have hB8:Below w.heap.size w (wr.drewN nq):=below_drewN hB7 _
           clear hbq s0 s1 s2 s3 s4 s5 s6 s7 hg7 hne r0 r1
           generalize wr.drewN nq=wq at *
           obtain ⟨-,-,-,hg7,hcells7⟩:=Vs hown8
           obtain ⟨s0,s1,s2,s3⟩:=hcells7 (j+1) _ (Ug O _ (j+1) hj)
           obtain ⟨s4,s5,s6,s7⟩:=hcells7 j c ((WD O _ j hj).trans HC.out)
           simp only at s0 s1
           have hne:¬ g6=wq.heap.size:=by omega
           clear hcells7
           go_wp2_with fail
           go_roundg j
           case measure=>rw[HJG.out];omega
           case rel =>
            have hs8:=hB8.size
            refine ⟨j,rfl,by omega,by go_num,?_,(Ra hown8 HC.out).alloc _,?_,?_,?_⟩
            ·intro y hy
             obtain ⟨hj',hc'⟩:=List.getElem?_eq_some_iff.1 HC.out
             rw[List.drop_eq_getElem_cons hj',hc'] at hy
             rcases List.mem_cons.1 hy with rfl|hy
             ·exact HCL.out
             ·exact hdrop.out y hy
            ·exact Z1 ((((((Ext.refl (·=g6) wq).setCell (p:=⟨g6,(j+1)*2,none⟩) (.inr rfl) _).setCell (p:=⟨g6,(j+1)*2+1,none⟩) (.inr rfl) _).setCell (p:=⟨g6,j*2,none⟩) (.inr rfl) _).setCell (p:=⟨g6,j*2+1,none⟩) (.inr rfl) _).keep r0' (by omega)) _
            ·exact Z1 ((((((Ext.refl (·=g6) wq).setCell (p:=⟨g6,(j+1)*2,none⟩) (.inr rfl) _).setCell (p:=⟨g6,(j+1)*2+1,none⟩) (.inr rfl) _).setCell (p:=⟨g6,j*2,none⟩) (.inr rfl) _).setCell (p:=⟨g6,j*2+1,none⟩) (.inr rfl) _).keep r1' (by omega)) _
            ·exact ((((hB8.setCell (by simp;omega) _).setCell (by simp;omega) _).setCell (by simp;omega) _).setCell (by simp;omega) _).alloc (by simp;omega) _
          ·have hcl':Op.bytesLess x.name.toList c.name.toList=false:=by rw[bytesLess_eq];simpa using hcl
           have HCL:=Lib.hid hcl
           clear hcl
           go_wp2_with fail
           go_quiet (fail)
           go_wp2_with fail
           go_roundg (L.length - (k+1))
           case measure=>rw[HG.out];omega
           case rel =>
            refine ⟨k+1,_,rfl,hlt,by go_num,?_,hgath.out.ins HX.out HE.out (j:=j+1) hj hdrop.out ?_,?_,r0,r1,below_drewN hB7 _⟩
            ·rw[WX _ _ _ hj];omega
            ·have hcx:c.name.toList<x.name.toList:=by
              refine Classical.byContradiction fun h=>HLN.out c (List.mem_of_getElem? HC.out) (WI _ _ h HCL.out)
             intro y hy
             obtain ⟨hj',hc'⟩:=List.getElem?_eq_some_iff.1 HC.out
             rw[List.take_succ_eq_append_getElem hj',hc'] at hy
             rcases List.mem_append.1 hy with hy|hy
             ·have hp:=hgath.out.rising
              rw[←List.take_append_drop j O,List.pairwise_append] at hp
              exact List.lt_trans (hp.2.2 y hy c (by rw[List.drop_eq_getElem_cons hj',hc'];simp)) hcx
             ·rw[List.mem_singleton.1 hy];exact hcx
            ·rw[HVL.out];exact hown7
   ·have HA:=Lib.hid hbk
    by_cases e1:x.blk.n=bn
    ·have e2:¬ x.blk.r=br:=fun e2=>hbk (TX e1 e2)
     clear hbk
     go_wp2_with fail
     go_loopg [8,9] O.length (fun g nw kk wy=>∃ j:Nat,g=O.length - j∧j≤O.length∧kk=.int .i64 j∧nw=.bool false∧Below W1.heap.size W1 wy)
     case atStart=>exact ⟨0,rfl,Nat.zero_le _,rfl,rfl,by rw[HW.out];simp only[e1];exact Below.refl _ _⟩
     case round =>
      obtain ⟨j,hj0,hj,rfl,rfl,hY⟩:=hrel
      have HJ:=Lib.hid hj0
      clear hj0
      by_cases hjl:j<O.length
      ·go_wp2_with fail
       go_quiet (fail)
       go_wp2_with fail
       go_roundg (O.length - (j+1))
       case measure=>rw[HJ.out];omega
       case rel=>exact ⟨j+1,rfl,hjl,by go_num,rfl,below_drewN hY _⟩
      ·go_wp2_with fail
       go_roundg (L.length - (k+1))
       case measure=>rw[HG.out];omega
       case rel=>exact ⟨k+1,O,rfl,hlt,by go_num,by omega,hgath.out.skip HX.out (.inl HA.out),hown1.ext (Ext.of_below (S:=fun _=>False) hY) (fun _ _ h=>h),Z0 hY p0,Z0 hY p1,hB1.trans (hY.mono hB1.size)⟩
    ·clear hbk
     go_wp2_with fail
     go_loopg [8,9] O.length (fun g nw kk wy=>∃ j:Nat,g=O.length - j∧j≤O.length∧kk=.int .i64 j∧nw=.bool false∧Below W1.heap.size W1 wy)
     case atStart=>exact ⟨0,rfl,Nat.zero_le _,rfl,rfl,by rw[HW.out];exact Below.refl _ _⟩
     case round =>
      obtain ⟨j,hj0,hj,rfl,rfl,hY⟩:=hrel
      have HJ:=Lib.hid hj0
      clear hj0
      by_cases hjl:j<O.length
      ·go_wp2_with fail
       go_quiet (fail)
       go_wp2_with fail
       go_roundg (O.length - (j+1))
       case measure=>rw[HJ.out];omega
       case rel=>exact ⟨j+1,rfl,hjl,by go_num,rfl,below_drewN hY _⟩
      ·go_wp2_with fail
       go_roundg (L.length - (k+1))
       case measure=>rw[HG.out];omega
       case rel=>exact ⟨k+1,O,rfl,hlt,by go_num,by omega,hgath.out.skip HX.out (.inl HA.out),hown1.ext (Ext.of_below (S:=fun _=>False) hY) (fun _ _ h=>h),Z0 hY p0,Z0 hY p1,hB1.trans (hY.mono hB1.size)⟩
  ·obtain rfl:k=L.length:=by omega
   go_wp2_with fail
   go_ret
   exact ⟨_,O,rfl,hown.mono (by omega),hgath.out,hB⟩
structure Acc (L:List Za):Prop where
 right:∀ x∈L,Z7 x.at_=true
 one:Z0O L
theorem RA (p:Pl) (L:List Za):(∀ x∈L,Z7 x.at_=true)→∀ x,Zz L p=some x→Wi L p x:=by
 refine WP (p:=fun L=>(∀ x∈L,Z7 x.at_=true)→∀ x,Zz L p=some x→Wi L p x) ?_ ?_ L
 ·intro _ x h;cases h
 ·intro L y ih hr x h
  have hr':∀ x∈L,Z7 x.at_=true:=fun x hx=>hr x (by simp[hx])
  have ih:=ih hr'
  rw[Wz,Xe] at h
  split at h
  ·rename_i hc
   cases h
   refine ⟨y,by simp,hr y (by simp),hc.1,rfl,fun z hz rz pz hlt=>?_⟩
   rcases List.mem_append.1 hz with hz|hz
   ·obtain ⟨u,hu⟩:=Option.isSome_iff_exists.1 ((Vo hr' p).2 ⟨z,hz,pz⟩)
    obtain ⟨v,hv,rv,pv,rfl,mv⟩:=ih u hu
    rw[hu] at hc
    exact mv z hz rz pz (ZC ((UU _ _).1 hc.2) hlt)
   ·rw[List.mem_singleton.1 hz] at hlt;exact Zl _ hlt
  ·rename_i hc
   obtain ⟨v,hv,rv,pv,rfl,mv⟩:=ih x h
   refine ⟨v,by simp[hv],rv,pv,rfl,fun z hz rz pz hlt=>?_⟩
   rcases List.mem_append.1 hz with hz|hz
   ·exact mv z hz rz pz hlt
   ·rw[List.mem_singleton.1 hz] at hlt pz
    rw[h] at hc
    exact hc ⟨pz,(UU _ _).2 hlt⟩
theorem Z2X {L:List Za} (h:Acc L) (p:Pl):Z5 (Zv L).1 p=Zz L p:=by
 have I:=Z16 L h.one
 cases hb:Zz L p with
 | some x=>exact (I.vals p x).2 (RA p L h.right x hb)
 | none =>
  cases ha:Z5 (Zv L).1 p with
  | none=>rfl
  | some x =>
   obtain ⟨y,hy,_,py,_⟩:=(I.vals p x).1 ha
   have:=(Vo h.right p).2 ⟨y,hy,py⟩
   rw[hb] at this
   cases this
theorem Z3c {L:List Za} (h:Acc L) (a:St):Yh (Zv L).2 a=YN L a:=by
 have I:=Z16 L h.one
 unfold Yh YN
 have e:((Z5 (Zv L).2 a).getD false=true)↔XD L a=true:=by
  rw[I.ats a,XD,List.any_eq_true]
  constructor
  ·rintro ⟨y,hy,_,e⟩;exact ⟨y,hy,by simp[e]⟩
  ·rintro ⟨y,hy,e⟩;exact ⟨y,hy,h.right y hy,by simpa using e⟩
 by_cases hh:XD L a=true
 ·rw[if_pos (e.2 hh),if_pos hh]
 ·rw[if_neg (fun x=>hh (e.1 x)),if_neg hh]
theorem Z2l {L:List Za} (h:Acc L) (x:Za):Acc (Wg L x)∧Zv (Wg L x)=XV (Zv L) x:=by
 have hc:=Z3c h x.at_
 unfold Wg
 split
 ·rename_i h0
  refine ⟨⟨fun y hy=>?_,fun y hy z hz e=>?_⟩,W7 L x⟩
  ·rcases List.mem_append.1 hy with hy|hy
   ·exact h.right y hy
   ·rw[List.mem_singleton.1 hy]
    unfold YN at h0
    split at h0
    ·omega
    ·rename_i hr;simpa using hr
  ·have hno:∀ u∈L,u.at_≠x.at_:=fun u hu e=>by
    have hh:XD L x.at_=true:=by rw[XD,List.any_eq_true];exact ⟨u,hu,by simp[e]⟩
    unfold YN at h0
    rw[hh] at h0
    split at h0 <;> simp at h0
   rcases List.mem_append.1 hy with hy|hy <;> rcases List.mem_append.1 hz with hz|hz
   ·exact h.one y hy z hz e
   ·rw[List.mem_singleton.1 hz] at e;exact absurd e (hno y hy)
   ·rw[List.mem_singleton.1 hy] at e;exact absurd e.symm (hno z hz)
   ·rw[List.mem_singleton.1 hy,List.mem_singleton.1 hz]
 ·rename_i h0
  rw[←hc] at h0
  refine ⟨h,?_⟩
  unfold XV YY W8
  rw[if_neg (fun e=>h0 e.1),if_neg h0]
noncomputable def ZT (mv:List RMv):List (St × Ch):=mv.foldl (fun c m=>WJ c m.at_ m.ch) []
theorem Z0k {mv:List RMv} {k:Nat} {m:RMv} (h:mv[k]?=some m):ZT (mv.take (k+1))=WJ (ZT (mv.take k)) m.at_ m.ch:=by
 unfold ZT
 rw[List.take_add_one,h,Option.toList_some,List.foldl_append]
 rfl
theorem Z1d {p:List (St × Ch)→Prop} (h0:p []) (h1:∀ c m,p c→p (WJ c m.at_ (RMv.ch m))) (mv:List RMv):p (ZT mv):=by
 unfold ZT
 have:∀ (mv:List RMv) c,p c→p (mv.foldl (fun c m=>WJ c m.at_ m.ch) c):=fun mv=>by
  induction mv with
  | nil=>exact fun c h=>h
  | cons m mv ih=>exact fun c h=>ih _ (h1 c m h)
 exact this mv [] h0
theorem Z24 (c:List (St × Ch)) (x:St × Ch):(Vn c x).length=c.length+1:=by
 induction c with
 | nil=>rfl
 | cons y c ih=>unfold Vn;split <;> simp[ih]
theorem Z2H (c:List (St × Ch)) (a:St) (x:Ch):(WJ c a x).length≤c.length+1:=by
 unfold WJ
 split
 ·rw[Z24];exact Nat.le_refl _
 ·omega
theorem SN (mv:List RMv):(ZT mv).length≤mv.length:=by
 have:∀ (mv:List RMv) (c:List (St × Ch)),(mv.foldl (fun c m=>WJ c m.at_ m.ch) c).length≤c.length+mv.length:=fun mv=>by
  induction mv with
  | nil=>intro c;simp
  | cons m mv ih =>
   intro c
   rw[List.foldl_cons,List.length_cons]
   have h1:=ih (WJ c m.at_ m.ch)
   have h2:=Z2H c m.at_ m.ch
   omega
 have:=this mv []
 simpa [ZT] using this
theorem QU {s:St} (h:Z7 s=true):s≠⟨0,0⟩:=by
 rintro rfl
 revert h
 decide
theorem Q6 (mv:List RMv):∀ x∈ZT mv,x.2.block≠⟨0,0⟩:=by
 refine Z1d (p:=fun c=>∀ x∈c,x.2.block≠⟨0,0⟩) (fun x h=>by cases h) (fun c m h=>?_) mv
 unfold WJ
 split
 ·rename_i hc
  intro x hx
  rcases Ti.1 hx with rfl|hx
  ·show m.block≠⟨0,0⟩
   unfold Yo at hc
   split at hc
   ·rename_i hg
    unfold XW at hg
    simp only[Bool.and_eq_true] at hg
    exact QU hg.1.2
   ·omega
  ·exact h x hx
 ·exact h
theorem Rn {c:List (St × Ch)} {k:St} {x:Ch} (h:Y3 c k=some x):x∈c.map (·.2):=by
 rcases Tj _ _ _ _ h with m|m
 ·exact m
 ·cases m
theorem VJ (mv:List RMv):Y3 (ZT mv) ⟨0,0⟩=none:=by
 cases h:Y3 (ZT mv) ⟨0,0⟩ with
 | none=>rfl
 | some x =>
  obtain ⟨y,hy,rfl⟩:=List.mem_map.1 (Rn h)
  exact absurd (YT _ _ _ h) (Q6 mv y hy)
theorem Z1h {c:List (St × Ch)} {A:List Ch} (h:Zm (Y3 c) A):A.length≤c.length:=by
 have hn:A.Nodup:=h.2.imp (fun {a b} h e=>by rw[e] at h;exact Zl _ h)
 have:=hn.length_le_of_subset (l₂:=c.map (·.2)) (fun x hx=>Rn ((h.1 x).1 hx))
 rwa [List.length_map] at this
def X4 (ws:List Za):List Za:=ws.foldl Wg []
theorem Z0w {ws:List Za} {k:Nat} {x:Za} (h:ws[k]?=some x):X4 (ws.take (k+1))=Wg (X4 (ws.take k)) x:=by
 unfold X4
 rw[List.take_add_one,h,Option.toList_some,List.foldl_append]
 rfl
theorem Ql {ws:List Za} {k:Nat} {x:Za} (h:ws[k]?=some x):Zv (ws.take (k+1))=XV (Zv (ws.take k)) x:=by
 rw[List.take_add_one,h,Option.toList_some,W7]
theorem Z15 (ws:List Za):Acc (X4 ws)∧Zv (X4 ws)=Zv ws:=by
 refine WP (p:=fun ws=>Acc (X4 ws)∧Zv (X4 ws)=Zv ws) ?_ ?_ ws
 ·exact ⟨⟨fun x h=>(by cases h),fun y h=>(by cases h)⟩,rfl⟩
 ·intro ws x ⟨h1,h2⟩
  have e:X4 (ws++[x])=Wg (X4 ws) x:=by unfold X4;rw[List.foldl_append];rfl
  obtain ⟨h3,h4⟩:=Z2l h1 x
  rw[e,W7,←h2]
  exact ⟨h3,h4⟩
theorem Sz (ws:List Za):(X4 ws).length≤ws.length:=by
 refine WP (p:=fun ws=>(X4 ws).length≤ws.length) ?_ ?_ ws
 ·exact Nat.le_refl _
 ·intro ws x h
  have e:X4 (ws++[x])=Wg (X4 ws) x:=by unfold X4;rw[List.foldl_append];rfl
  rw[e,List.length_append]
  unfold Wg
  split
  ·rw[List.length_append];simpa using h
  ·simp;omega
theorem Z2a {K V:Type} [DecidableEq K] (l:List (K × V)) (k:K) (v:V):(Zx l k v).length≤l.length+1:=by
 induction l with
 | nil=>simp[Zx]
 | cons p l ih =>
  obtain ⟨a,b⟩:=p
  unfold Zx
  split <;> simp <;> omega
theorem TK (ws:List Za):(Zv ws).1.length≤ws.length:=by
 refine WP (p:=fun ws=>(Zv ws).1.length≤ws.length) ?_ ?_ ws
 ·exact Nat.le_refl _
 ·intro ws x h
  rw[W7,List.length_append,List.length_singleton]
  show (YY _ _ _ _ _).length≤_
  unfold YY
  split
  ·have:=Z2a (Zv ws).1 x.pl (⟨x.at_,x.value⟩:Wr)
   omega
  ·omega
noncomputable def Vr (vs:List (Pl × Wr)) (u:St):List Atr:=@dite _ (∃ l,Wo vs u l) (Classical.propDecidable _) (fun h=>Classical.choose h) (fun _=>[])
theorem QF {vs:List (Pl × Wr)} {u:St} {l:List Atr} (h:Wo vs u l):Vr vs u=l:=by
 have h1:∃ l,Wo vs u l:=⟨l,h⟩
 unfold Vr
 rw[dif_pos h1]
 exact (Classical.choose_spec h1).unique h (fun _=>rfl)
structure El where
 id:St
 ch:Int
 gone:Bool
def El.cells (x:El):List Value:=[.int .i64 x.id.n,.int .i64 x.id.r,.int .i64 x.ch,.bool x.gone]
structure OpD where
 id:St
 d0:Int
 d1:Int
 d2:Int
 d3:Int
 d4:Int
 d5:Int
 d6:Int
 d7:Int
 kind:Int
 ref:St
 side:Int
 ch:Int
 under:St
 key:ByteArray
 name:ByteArray
 value:ByteArray
 fr:St
 fa:Bool
 tr:St
 ta:Bool
def OpD.cells (x:OpD):List Value:=[.int .i64 x.id.n,.int .i64 x.id.r,.int .i64 x.d0,.int .i64 x.d1,.int .i64 x.d2,.int .i64 x.d3,.int .i64 x.d4,.int .i64 x.d5,.int .i64 x.d6,.int .i64 x.d7,.int .i64 x.kind,.int .i64 x.ref.n,.int .i64 x.ref.r,.int .i64 x.side,.int .i64 x.ch,.int .i64 x.under.n,.int .i64 x.under.r,.string x.key,.string x.name,.string x.value,.int .i64 x.fr.n,.int .i64 x.fr.r,.bool x.fa,.int .i64 x.tr.n,.int .i64 x.tr.r,.bool x.ta]
structure Zc where
 op:OpD
 lo:Int
 hi:Int
def Zc.cells (x:Zc):List Value:=[.int .i64 x.op.id.n,.int .i64 x.op.id.r,.int .i64 x.op.d0,.int .i64 x.op.d1,.int .i64 x.op.d2,.int .i64 x.op.d3,.int .i64 x.op.d4,.int .i64 x.op.d5,.int .i64 x.op.d6,.int .i64 x.op.d7,.int .i64 x.op.kind,.int .i64 x.op.ref.n,.int .i64 x.op.ref.r,.int .i64 x.op.side,.int .i64 x.op.ch,.int .i64 x.op.under.n,.int .i64 x.op.under.r,.string x.op.key,.string x.op.name,.string x.op.value,.int .i64 x.op.fr.n,.int .i64 x.op.fr.r,.bool x.op.fa,.int .i64 x.op.tr.n,.int .i64 x.op.tr.r,.bool x.op.ta,.int .i64 x.lo,.int .i64 x.hi]
theorem Zc.len (x:Zc):x.cells.length=28:=rfl
theorem OpD.len (x:OpD):x.cells.length=26:=rfl
theorem OpD.one (x:OpD):∀ u∈x.cells,u.oneCell'=true:=by
 intro u hu
 simp only[OpD.cells,List.mem_cons,List.not_mem_nil,or_false] at hu
 rcases hu with rfl|rfl|rfl|rfl|rfl|rfl|rfl|rfl|rfl|rfl|rfl|rfl|rfl|rfl|rfl|rfl|rfl|rfl|rfl|rfl|rfl|rfl|rfl|rfl|rfl|rfl <;> rfl
theorem Zc.one (x:Zc):∀ u∈x.cells,u.oneCell'=true:=by
 intro u hu
 simp only[Zc.cells,List.mem_cons,List.not_mem_nil,or_false] at hu
 rcases hu with rfl|rfl|rfl|rfl|rfl|rfl|rfl|rfl|rfl|rfl|rfl|rfl|rfl|rfl|rfl|rfl|rfl|rfl|rfl|rfl|rfl|rfl|rfl|rfl|rfl|rfl|rfl|rfl <;> rfl
def ZZ (x y:Zc):Int:=Yc x.op.id y.op.id
theorem Vd (x y:Zc) (w:World) :
  Calls Tryz.prog 98 #[.agg x.cells.toArray,.agg y.cells.toArray] w
   fun e w'=>e=.returned (.int .i64 (ZZ x y))∧Below w.heap.size w w':=by
 unfold Zc.cells
 go_enter Tryz.func98,Tryz.ntmps98
 go_wp2_with fail
 refine (VP _ _ _ _ _).mono ?_
 rintro e w1 ⟨rfl,b1⟩
 go_wp2_with fail
 go_ret
 exact ⟨rfl,(((Below.refl _ _).alloc (Nat.le_refl _) _).alloc (by simp) _).trans (b1.mono (by simp <;> omega))⟩
def Yb (x:El):Bool:=decide (x.ch=0) && !x.gone
structure Spn where
 blk:St
 lo:Nat
 hi:Nat
def Spn.cells (s:Spn):List Value:=[.int .i64 s.blk.n,.int .i64 s.blk.r,.int .i64 s.lo,.int .i64 s.hi]
def Spn.val (s:Spn):Value:=.agg #[.int .i64 s.blk.n,.int .i64 s.blk.r,.int .i64 s.lo,.int .i64 s.hi]
theorem Spn.len (s:Spn):s.cells.length=4:=rfl
theorem Spn.one (x:Spn):∀ u∈x.cells,u.oneCell'=true:=by
 intro u hu
 simp only[Spn.cells,List.mem_cons,List.not_mem_nil,or_false] at hu
 rcases hu with rfl|rfl|rfl|rfl <;> rfl
def cur (l:List El):Nat→List Spn × St × Nat
 | 0=>([],⟨0,0⟩,0)
 | n+1=>match l[n]? with
  | some x=>if Yb x=true then ((cur l n).1++[⟨(cur l n).2.1,(cur l n).2.2,n⟩],x.id,n+1) else cur l n
  | none=>cur l n
def ZW (l:List El):List Spn:=(cur l l.length).1++[⟨(cur l l.length).2.1,(cur l l.length).2.2,l.length⟩]
theorem UV {l:List El} {n:Nat} {x:El} (hx:l[n]?=some x) (hb:Yb x=true):cur l (n+1)=((cur l n).1++[⟨(cur l n).2.1,(cur l n).2.2,n⟩],x.id,n+1):=by
 rw[cur,hx];simp only[hb,if_true]
theorem US {l:List El} {n:Nat} {x:El} (hx:l[n]?=some x) (hb:Yb x=false):cur l (n+1)=cur l n:=by
 rw[cur,hx];simp[hb]
theorem Rd (l:List El):∀ n,(cur l n).2.2≤n∧(cur l n).1.length≤n∧∀ s∈(cur l n).1,s.lo≤s.hi∧s.hi≤n
 | 0=>by simp[cur]
 | n+1=>by
  obtain ⟨h1,h2,h3⟩:=Rd l n
  rw[cur]
  split
  ·split
   ·refine ⟨Nat.le_refl _,by simp;omega,fun s hs=>?_⟩
    rw[List.mem_append,List.mem_singleton] at hs
    rcases hs with hs|rfl
    ·have:=h3 s hs;omega
    ·exact ⟨h1,Nat.le_succ _⟩
   ·exact ⟨by omega,by omega,fun s hs=>by have:=h3 s hs;omega⟩
  ·exact ⟨by omega,by omega,fun s hs=>by have:=h3 s hs;omega⟩
theorem RS (l:List El):∀ n,n≤l.length→(cur l n).1.map Spn.blk++[(cur l n).2.1]=⟨0,0⟩ :: ((l.take n).filter Yb).map El.id
 | 0,_=>by simp[cur]
 | n+1,hn=>by
  have ih:=RS l n (by omega)
  obtain ⟨x,hx⟩:∃ x,l[n]?=some x:=⟨_,List.getElem?_eq_getElem (by omega)⟩
  have ht:l.take (n+1)=l.take n++[x]:=by rw[List.take_add_one,hx];rfl
  rw[ht,List.filter_append,List.map_append,←List.cons_append,←ih]
  cases hb:Yb x with
  | true=>rw[UV hx hb];simp[hb]
  | false=>rw[US hx hb];simp[hb]
theorem QO (l:List El):(ZW l).map Spn.blk=⟨0,0⟩ :: (l.filter Yb).map El.id:=by
 have:=RS l l.length (Nat.le_refl _)
 rw[List.take_length] at this
 rw[ZW,List.map_append,←this]
 rfl
theorem UD (l:List El):(ZW l).length≤l.length+1:=by
 obtain ⟨h1,h2,h3⟩:=Rd l l.length
 rw[ZW,List.length_append,List.length_singleton]
 omega
theorem Xo (l:List El):∃ n r,ZW l=⟨⟨0,0⟩,0,n⟩ :: r:=by
 have h0:∀ n,(∃ m r,(cur l n).1=⟨⟨0,0⟩,0,m⟩ :: r)∨((cur l n).1=[]∧(cur l n).2=(⟨0,0⟩,0)):=fun n=>by
  induction n with
  | zero=>exact .inr ⟨rfl,rfl⟩
  | succ n ih =>
   rw[cur]
   split
   ·split
    ·refine .inl ?_
     rcases ih with ⟨m,r,e⟩|⟨e,e2⟩
     ·exact ⟨m,_,by rw[e];rfl⟩
     ·exact ⟨n,[],by rw[e,e2];rfl⟩
    ·exact ih
   ·exact ih
 rcases h0 l.length with ⟨m,r,e⟩|⟨e,e2⟩
 ·exact ⟨m,r++_,by rw[ZW,e];rfl⟩
 ·exact ⟨l.length,[],by rw[ZW,e,e2];rfl⟩
def ZH (l:List El):List (St × Spn):=(ZW l).tail.map fun s=>(s.blk,s)
def YA (l:List El) (b:St):Option Spn:=Z5 (ZH l) b
def X2 (l:List El) (b:St):Bool:=(YA l b).isSome
def XJ (l:List El):Prop:=l.Pairwise (fun a b=>a.id≠b.id)
theorem TU (l:List El):(ZH l).map (·.1)=(l.filter Yb).map El.id:=by
 have:=QO l
 obtain ⟨n,r,e⟩:=Xo l
 rw[ZH,List.map_map]
 rw[e] at this ⊢
 exact (List.cons.inj this).2
theorem Te {l:List El} (h:XJ l):((ZH l).map (·.1)).Nodup:=by
 rw[TU]
 exact List.pairwise_map.2 (h.filter _)
theorem VK {K V:Type} [DecidableEq K] (l:List (K × V)) (k:K):(Z5 l k).isSome=true↔k∈l.map (·.1):=by
 induction l with
 | nil=>simp[Z5]
 | cons p r ih =>
  obtain ⟨a,b⟩:=p
  simp only[Z5]
  split
  ·rename_i e;simp[e]
  ·rename_i e;rw[ih];simp[Ne.symm e]
theorem WY {l:List El} {b:St}:X2 l b=true↔∃ x∈l,Yb x=true∧x.id=b:=by
 rw[X2,YA,VK,TU,List.mem_map]
 constructor
 ·rintro ⟨x,hx,e⟩;rw[List.mem_filter] at hx;exact ⟨x,hx.1,hx.2,e⟩
 ·rintro ⟨x,h1,h2,h3⟩;exact ⟨x,List.mem_filter.2 ⟨h1,h2⟩,h3⟩
theorem Z0I {l:List El} {b:St} {s:Spn} (h:YA l b=some s):s∈ZW l∧s.blk=b:=by
 have:(b,s)∈ZH l:=by
  unfold YA at h
  generalize ZH l=L at h
  induction L with
  | nil=>cases h
  | cons p r ih =>
   obtain ⟨k',v'⟩:=p
   simp only[Z5] at h
   split at h
   ·rename_i e;subst e;cases h;exact List.mem_cons_self ..
   ·exact List.mem_cons_of_mem _ (ih h)
 obtain ⟨t,ht,e⟩:=List.mem_map.1 this
 simp only[Prod.mk.injEq] at e
 obtain ⟨rfl,rfl⟩:=e
 exact ⟨List.mem_of_mem_tail ht,rfl⟩
theorem RI (x:El) (w:World):Calls Tryz.prog 92 #[.agg #[.int .i64 x.id.n,.int .i64 x.id.r,.int .i64 x.ch,.bool x.gone]] w fun e w'=>e=.returned (.bool (Yb x))∧Below w.heap.size w w':=by
 by_cases hc:x.ch=0
 ·go_enter Tryz.func92,Tryz.ntmps92
  go_wp2_with fail
  go_ret
  exact ⟨by simp[Yb,hc],(Below.refl _ _).alloc (Nat.le_refl _) _⟩
 ·go_enter Tryz.func92,Tryz.ntmps92
  go_wp2_with fail
  go_ret
  exact ⟨by simp[Yb,hc],(Below.refl _ _).alloc (Nat.le_refl _) _⟩
theorem TA (x:El) (w:World):Calls Tryz.prog 58 #[.agg #[.int .i64 x.id.n,.int .i64 x.id.r,.int .i64 x.ch,.bool x.gone]] w fun e w'=>e=.returned (.bool (Yb x))∧Below w.heap.size w w':=by
 by_cases hc:x.ch=0
 ·go_enter Tryz.func58,Tryz.ntmps58
  go_wp2_with fail
  go_ret
  exact ⟨by simp[Yb,hc],(Below.refl _ _).alloc (Nat.le_refl _) _⟩
 ·go_enter Tryz.func58,Tryz.ntmps58
  go_wp2_with fail
  go_ret
  exact ⟨by simp[Yb,hc],(Below.refl _ _).alloc (Nat.le_refl _) _⟩
theorem Z3k {s:St} {an ar:Int} (h:s≠⟨an,ar⟩) (e:s.n=an):¬ s.r=ar:=fun e2=>h (by
 obtain ⟨a,b⟩:=s
 simp only at e e2
 rw[e,e2])
theorem Z2b {l:List El} {b:St} {k:Nat} {x:El} (hx:l[k]?=some x) (hb:Yb x=true) (he:x.id=b):X2 l b=true:=WY.2 ⟨x,List.mem_of_getElem? hx,hb,he⟩
theorem Z31 {l:List El} {b:St} (h:∀ (j:Nat) (y:El),l[j]?=some y→Yb y=true→y.id≠b):X2 l b=false:=by
 cases e:X2 l b with
 | false=>rfl
 | true =>
  obtain ⟨x,h1,h2,h3⟩:=WY.1 e
  obtain ⟨j,hj⟩:=List.getElem?_of_mem h1
  exact absurd h3 (h j x hj h2)
theorem SA {l:List El} {b:St} {k:Nat} {x:El} (h:∀ (j:Nat) (y:El),j<k→l[j]?=some y→Yb y=true→y.id≠b) (hx:l[k]?=some x) (hn:Yb x=true→x.id≠b):∀ (j:Nat) (y:El),j<k+1→l[j]?=some y→Yb y=true→y.id≠b:=fun j y hj hy=>by
 by_cases e:j=k
 ·subst e;rw[hx] at hy;cases hy;exact hn
 ·exact h j y (by omega) hy
theorem Z1D (v:Value) (l:List El) (bn br:Int) (w:World) (hv:Z4 El.cells 4 w v l) :
  Calls Tryz.prog 40 #[v,.agg #[.int .i64 bn,.int .i64 br]] w fun e w'=>e=.returned (.bool (X2 l ⟨bn,br⟩))∧Below w.heap.size w w':=by
 obtain ⟨a,cap,rfl,hcap,hmax,hcs⟩:=hv
 unfold maxLen at hmax
 have hB0:Below w.heap.size w (w.alloc (.cells #[.int .i64 bn,.int .i64 br] 23)):=(Below.refl _ _).alloc (Nat.le_refl _) _
 have q0:(w.alloc (.cells #[.int .i64 bn,.int .i64 br] 23)).cell? ⟨w.heap.size,0,none⟩=some (.int .i64 bn):=by go_simp
 have q1:(w.alloc (.cells #[.int .i64 bn,.int .i64 br] 23)).cell? ⟨w.heap.size,1,none⟩=some (.int .i64 br):=by go_simp
 have hw1:(w.alloc (.cells #[.int .i64 bn,.int .i64 br] 23)).heap.size=w.heap.size+1:=by simp
 go_enter Tryz.func40,Tryz.ntmps40
 go_upto_region 1 with fail
 generalize w.alloc (.cells #[.int .i64 bn,.int .i64 br] 23)=w1 at *
 go_wp2_with fail
 go_loopg [5] l.length (fun g i wx=>∃ k:Nat,g=l.length - k∧k≤l.length∧i=.int .i64 k∧Hid (∀ (j:Nat) (y:El),j<k→l[j]?=some y→Yb y=true→y.id≠⟨bn,br⟩)∧Below w1.heap.size w1 wx)
 case atStart=>exact ⟨0,rfl,Nat.zero_le _,rfl,Jh (fun j y hj=>absurd hj (by omega)),Below.refl _ _⟩
 case round =>
  obtain ⟨k,hg,hk,rfl,HP,hB⟩:=hrel
  have HG:=Lib.hid hg
  clear hg
  by_cases hlt:k<l.length
  ·obtain ⟨x,hx⟩:∃ x,l[k]?=some x:=⟨_,List.getElem?_eq_getElem hlt⟩
   obtain ⟨b,o,rfl,hc⟩:=hcs (by intro e;rw[e] at hlt;simp at hlt)
   have hWB:Below w.heap.size w wr:=hB0.trans (hB.mono (by omega))
   have x0:wr.cell? ⟨b,o+k*4,none⟩=some (.int .i64 x.id.n):=Z0 hWB (hc k x hx 0 _ rfl)
   have x1:wr.cell? ⟨b,o+k*4+1,none⟩=some (.int .i64 x.id.r):=Z0 hWB (hc k x hx 1 _ rfl)
   have x2:wr.cell? ⟨b,o+k*4+2,none⟩=some (.int .i64 x.ch):=Z0 hWB (hc k x hx 2 _ rfl)
   have x3:wr.cell? ⟨b,o+k*4+3,none⟩=some (.bool x.gone):=Z0 hWB (hc k x hx 3 _ rfl)
   have p0:=Z0 hB q0
   have p1:=Z0 hB q1
   have HX:=Lib.hid hx
   have HW:=Lib.hid hWB
   have HBB:=Lib.hid hB
   have HC:=Lib.hid hcs
   have hkk:(k:Int)<(l.length:Int):=by omega
   have hk0:(0:Int)≤(k:Int):=by omega
   clear hx hWB hB hcs hc q0 q1
   go_wp2_with fail
   refine (TA x _).mono ?_
   rintro e w2 ⟨rfl,b2⟩
   have y0:=Z0 b2 x0
   have y1:=Z0 b2 x1
   have r0:=Z0 b2 p0
   have r1:=Z0 b2 p1
   have HW2:=Jh (HW.out.trans (b2.mono HW.out.size))
   have HB2:=Jh (HBB.out.trans (b2.mono HBB.out.size))
   clear x0 x1 x2 x3 p0 p1 b2
   cases hb:Yb x with
   | false =>
    have HN:=Jh (SA HP.out HX.out (b:=⟨bn,br⟩) (by rw[hb];simp))
    clear hb
    go_wp2_with fail
    go_quiet (fail)
    go_wp2_with fail
    go_roundg (l.length - (k+1))
    case measure=>rw[HG.out];omega
    case rel=>exact ⟨k+1,rfl,hlt,by go_num,HN,below_drewN HB2.out _⟩
   | true =>
    by_cases he:x.id=⟨bn,br⟩
    ·have HR:=Jh (Z2b HX.out hb he)
     have e1:x.id.n=bn:=by rw[he]
     have e2:x.id.r=br:=by rw[he]
     rw[e1] at y0
     rw[e2] at y1
     clear he e1 e2 hb
     go_wp2_with fail
     go_region_held3 (fun W=>W.cell? ⟨b,o+k*4,none⟩=some (.int .i64 bn)∧W.cell? ⟨b,o+k*4+1,none⟩=some (.int .i64 br)∧W.cell? ⟨w.heap.size,0,none⟩=some (.int .i64 bn)∧W.cell? ⟨w.heap.size,1,none⟩=some (.int .i64 br)) (exact ⟨y0,y1,r0,r1⟩) (fail)
     go_wp2_with fail
     go_ret
     exact ⟨by rw[HR.out];rfl,HW2.out.drew⟩
    ·have HN:=Jh (SA HP.out HX.out (b:=⟨bn,br⟩) (fun _=>he))
     have he':=Z3k he
     clear he hb
     by_cases e1:x.id.n=bn
     ·have e2:=he' e1
      rw[e1] at y0
      clear e1 he'
      go_wp2_with fail
      go_region_held3 (fun W=>W.cell? ⟨b,o+k*4,none⟩=some (.int .i64 bn)∧W.cell? ⟨b,o+k*4+1,none⟩=some (.int .i64 x.id.r)∧W.cell? ⟨w.heap.size,0,none⟩=some (.int .i64 bn)∧W.cell? ⟨w.heap.size,1,none⟩=some (.int .i64 br)) (exact ⟨y0,y1,r0,r1⟩) (fail)
      go_wp2_with fail
      go_roundg (l.length - (k+1))
      case measure=>rw[HG.out];omega
      case rel=>exact ⟨k+1,rfl,hlt,by go_num,HN,HB2.out.drew⟩
     ·clear he'
      go_wp2_with fail
      go_region_held3 (fun W=>W.cell? ⟨b,o+k*4,none⟩=some (.int .i64 x.id.n)∧W.cell? ⟨b,o+k*4+1,none⟩=some (.int .i64 x.id.r)∧W.cell? ⟨w.heap.size,0,none⟩=some (.int .i64 bn)∧W.cell? ⟨w.heap.size,1,none⟩=some (.int .i64 br)) (exact ⟨y0,y1,r0,r1⟩) (fail)
      go_wp2_with fail
      go_roundg (l.length - (k+1))
      case measure=>rw[HG.out];omega
      case rel=>exact ⟨k+1,rfl,hlt,by go_num,HN,HB2.out.drew⟩
  ·obtain rfl:k=l.length:=by omega
   have HR:=Jh (Z31 (b:=⟨bn,br⟩) (fun j y hy=>HP.out j y (List.getElem?_eq_some_iff.1 hy).1 hy))
   have HW:=Jh (hB0.trans (hB.mono (by omega)))
   have hkk:¬ (l.length:Int)<(l.length:Int):=by omega
   clear hlt hk
   go_wp2_with fail
   go_ret
   exact ⟨by rw[HR.out];rfl,HW.out⟩
def QC (R:Nat→Prop) (J:World→Prop) (W:World):Exit→Act→World→Prop
 | .normal,_,W'=>J W'∧Ext R W W'
 | .ret,_,_=>False
 | .exit _,_,_=>False
 | .goto _,_,_=>False
 | .panic _,_,_=>False
 | .outgrown,_,_=>False
theorem Yd (w:World) (l:Nat) (o:Obj):Ext (·=l) w (w.putObj l o) :=
 ⟨rfl,rfl,rfl,by simp[World.putObj],fun k hk hn=>World.putObj_heap_other (by omega)⟩
def Uw {U:Type} (P:Program) (n gf:Nat) (lb:Array Value) (encs:U→Array Value) (R:Nat→Prop) (xs:List U) (w:World):Prop :=
 ∀ (l:Nat) (I:List U→World→Prop) (W:World),w.heap.size<l→Below w.heap.size w W→(∀ pre W W',I pre W→Ext (fun _=>False) W W'→I pre W') →
  (∀ pre x W1,I pre W1→pre++[x] <+: xs→YieldAt Fence.wide (n - 1) P l (encs x) W1 fun e W'=>e=.returned (.bool true)∧I (pre++[x]) W'∧Ext (fun k=>k=l∨R k) W1 W')→I [] W →
  CallsIn Fence.wide n P gf (#[.func (.yield l) #[] #[]]++lb) W fun e W'=>(∃ v,e=.returned v)∧I xs W'
theorem SM {U:Type} {P:Program} {n:Nat} (h1:1≤n) {g:Operand} {ps:Array Tmp} {assign body:Code} {Q:Exit→Act→World→Prop} {a:Act} {w:World} {gf:Nat} {lb:Array Value}
  (hg:a.eval g=.func (.func gf) #[] lb) (eg:∀ args w,(callFunc gf args).run P w=.ok (.enter gf args) w)
  (encs:U→Array Value) (hps:∀ x,(encs x).size=ps.size) (R:Nat→Prop) (hR:∀ k,R k→k≠w.heap.size∧k≠w.heap.size+1) (xs:List U)
  (J:List U→World→Prop) (hJ:∀ pre W W',J pre W→Ext (fun k=>k=w.heap.size∨k=w.heap.size+1) W W'→J pre W')
  (hseq:Uw P (n - 1) gf lb encs R xs w)
  (h00:J [] w)
  (hround:∀ (l:Nat) (pre:List U) (x:U) (W:World),J pre W→pre++[x] <+: xs→w.heap.size+1<W.heap.size →
   assign.wpIn (Fence.wide.inRound l) (n - 1 - 1) P (Exit.then (fun a₁ W₁=>Ext (fun _=>False) W W₁∧J pre W₁∧∀ W₂,J pre W₂→Ext (fun k=>k=w.heap.size+1) W₁ W₂→body.wpIn (Fence.wide.inRound l) (n - 1 - 1) P (QC R (J (pre++[x])) W₂) a₁ W₂) (fun _ _ _=>False))
    { tmps:=(ps.zip (encs x)).foldl (fun t (p,v)=>t.setIfInBounds p v) a.tmps,defers:=[] } W)
  (hdone:∀ W,J xs W→W.heap[w.heap.size]?=some (.deferred (some []))→Q .normal { a with defers:={ target:=.collected w.heap.size,args:=#[] } :: a.defers } W) :
  (Code.rangeFunc g ps assign body).wpIn Fence.wide n P Q a w:=by
 refine wpIn_rangeFunc ?_
 intro fn hfn
 obtain ⟨rec,hrec⟩:∃ rec:LoopState→Option Code→Loop,rec=fun st pe=>{ state:=st,pending:=pe,fn,tmps:=a.tmps,params:=ps,assign,body,defers:=w.heap.size }:=⟨_,rfl⟩
 obtain ⟨W1,hW1⟩:=Je ((w.alloc (.deferred (some []))).alloc (.loop (rec .ready none)))
 have hL1:W1.heap[w.heap.size+1]?=some (.loop (rec .ready none)):=by
  rw[←hW1];have:=World.alloc_heap_new (w.alloc (.deferred (some []))) (.loop (rec .ready none));rwa [World.size_alloc] at this
 have hK1:W1.heap[w.heap.size]?=some (.deferred (some [])):=by
  rw[←hW1];exact (Below.heap_alloc _ _ _ (by simp)).trans (World.alloc_heap_new w _)
 have hb1:Below w.heap.size w W1:=by
  rw[←hW1];exact (((Below.refl _ w).alloc (Nat.le_refl _) _).alloc (by simp) _)
 have hJ1:J [] W1:=hJ _ _ _ h00 (Ext.of_below hb1)
 refine ⟨w.heap.size+1,[{ target:=.collected w.heap.size,args:=#[] }],W1,{ target:=.fn (.func gf) lb,args:=#[.func (.yield (w.heap.size+1)) #[] #[]] },W1,gf,
  #[.func (.yield (w.heap.size+1)) #[] #[]]++lb,W1,?_,?_,?_,?_,fun _=>h1,?_⟩
 ·rw[←hW1,hrec];exact run_enterLoop_outer _ _ _ _ _
 ·simp only[resolve,hg]
  simp[go_sem]
 ·intro f' hf';trivial
 ·simp[invoke,go_sem,eg]
 ·refine (hseq (w.heap.size+1)
   (fun pre W=>J pre W∧W.heap[w.heap.size+1]?=some (.loop (rec .ready none))∧W.heap[w.heap.size]?=some (.deferred (some [])))
   W1 (Nat.lt_succ_self _) hb1
   (fun pre A B hs hx=>⟨hJ _ _ _ hs.1 (hx.mono (fun _ _ f=>f.elim)),(hx.block _ (Array.getElem?_eq_some_iff.1 hs.2.1).1 id).trans hs.2.1,(hx.block _ (Array.getElem?_eq_some_iff.1 hs.2.2).1 id).trans hs.2.2⟩)
   ?_ ⟨hJ1,hL1,hK1⟩).mono ?_
  ·rintro pre x W ⟨hi,hl,hk⟩ hpx
   have hlt:w.heap.size+1<W.heap.size:=(Array.getElem?_eq_some_iff.1 hl).1
   have hy:=run_yield (P:=P) (args:=encs x) hl (by rw[hrec];exact hps x)
   rw[hrec] at hy
   refine ⟨fn,_,assign,body,hy,roundIn_of_wpIn hfn (wpIn_mono (hround _ pre x W hi hpx hlt) ?_)⟩
   rintro e a1 W' hp
   cases e with
   | normal =>
    obtain ⟨hxa,hja,hbody⟩:=hp
    have hla:=(hxa.block _ hlt id).trans hl
    have hka:=(hxa.block _ (by omega) id).trans hk
    have hlt':w.heap.size+1<W'.heap.size:=(Array.getElem?_eq_some_iff.1 hla).1
    refine ⟨_,run_beginRound hla (by rw[hrec]),?_⟩
    have hl2:(W'.putObj (w.heap.size+1) (.loop { rec .ready none with state:=.busy })).heap[w.heap.size+1]?=some (.loop { rec .ready none with state:=.busy }):=World.putObj_heap_same hlt'
    have hk2:(W'.putObj (w.heap.size+1) (.loop { rec .ready none with state:=.busy })).heap[w.heap.size]?=some (.deferred (some [])):=(World.putObj_heap_other (by omega)).trans hka
    have hx2:Ext (fun k=>k=w.heap.size+1) W' (W'.putObj (w.heap.size+1) (.loop { rec .ready none with state:=.busy })):=Yd _ _ _
    have hmono:∀ {A B:World},Ext (fun k=>k=w.heap.size+1) A B→Ext (fun k=>k=w.heap.size∨k=w.heap.size+1) A B:=fun hx=>hx.mono (fun k _ hk=>.inr hk)
    refine wpIn_mono (hbody _ (hJ _ _ _ hja (hmono hx2)) hx2) ?_
    have s1:=(Array.getElem?_eq_some_iff.1 hl2).1
    have s0:=(Array.getElem?_eq_some_iff.1 hk2).1
    have nR1:¬ R (w.heap.size+1):=fun h=>(hR _ h).2 rfl
    have nR0:¬ R w.heap.size:=fun h=>(hR _ h).1 rfl
    rintro e a3 W3 hp
    cases e with
    | normal =>
     obtain ⟨hj3,hx3⟩:=hp
     have hl3:=(hx3.block _ s1 nR1).trans hl2
     have hk3:=(hx3.block _ s0 nR0).trans hk2
     have hr:=run_endRound (P:=P) none hl3
     rw[hrec] at hr
     refine ⟨_,_,hr,rfl,⟨hJ _ _ _ hj3 (hmono (Yd _ _ _)),?_,(World.putObj_heap_other (by omega)).trans hk3⟩,?_⟩
     ·rw[hrec];exact World.putObj_heap_same (Array.getElem?_eq_some_iff.1 hl3).1
     ·have e1:Ext (fun k=>k=w.heap.size+1∨R k) W W':=hxa.mono (fun _ _ f=>f.elim)
      have e2:Ext (fun k=>k=w.heap.size+1∨R k) W' (W'.putObj (w.heap.size+1) (.loop { rec .ready none with state:=.busy })):=hx2.mono (fun _ _ h=>.inl h)
      have e3:Ext (fun k=>k=w.heap.size+1∨R k) (W'.putObj (w.heap.size+1) (.loop { rec .ready none with state:=.busy })) W3:=hx3.mono (fun _ _ h=>.inr h)
      exact ((e1.trans e2).trans e3).trans ((Yd _ _ _).mono (fun _ _ h=>.inl h))
    | ret=>exact hp.elim
    | exit id=>exact hp.elim
    | goto t=>exact hp.elim
    | panic ch=>exact hp.elim
    | outgrown=>exact hp.elim
   | ret=>exact hp.elim
   | exit id=>exact hp.elim
   | goto t=>exact hp.elim
   | panic ch=>exact hp.elim
   | outgrown=>exact hp.elim
  ·rintro e W2 ⟨⟨v,rfl⟩,hi,hl,hk⟩
   refine ⟨none,_,by have:=run_endLoop (P:=P) hl (by rw[hrec];simp);rw[hrec] at this;exact this,hdone _ (hJ _ _ _ hi ?_) ((World.putObj_heap_other (by omega)).trans hk)⟩
   have hx:=Yd W2 (w.heap.size+1) (.loop { (rec .ready none) with state:=.exhausted })
   rw[hrec] at hx
   exact hx.mono (fun k _ hk=>.inr hk)
section
variable {α:Type} {ea:α→List Value} {k:Nat} {w:World} {v:Value} {l:List α}
theorem Z4.ext {S:Nat→Prop} {w':World} (h:Z4 ea k w v l) (hx:Ext S w w') (hn:∀ b o n cap,v=.slice (some ⟨b,o,none⟩) n cap→¬ S b):Z4 ea k w' v l:=by
 obtain ⟨a,cap,rfl,h2,h3,h4⟩:=h
 refine ⟨a,cap,rfl,h2,h3,fun hl=>?_⟩
 obtain ⟨b,off,h5,h6⟩:=h4 hl
 exact ⟨b,off,h5,fun i x hi j u hj=>hx.keep (h6 i x hi j u hj) (hn b off l.length cap (by rw[h5]))⟩
end
def Ze {α:Type} (l:List α):List (Nat × α):=(l.zipIdx.map fun p=>(p.2,p.1)).reverse
theorem Xw {α:Type} (l:List α):(Ze l).length=l.length:=by simp[Ze]
theorem Z03 {α:Type} (l:List α) {k:Nat} {x:α} (hk:l[k]?=some x):(Ze l)[l.length - (k+1)]?=some (k,x):=by
 have hkl:=(List.getElem?_eq_some_iff.1 hk).1
 unfold Ze
 rw[List.getElem?_reverse (by simp;omega)]
 simp only[List.length_map,List.length_zipIdx]
 rw[show l.length - 1 - (l.length - (k+1))=k by omega]
 simp[hk]
theorem T9 {α:Type} (l:List α) {k:Nat} {x:α} (hk:l[k]?=some x):(Ze l).take (l.length - (k+1))++[(k,x)]=(Ze l).take (l.length - k):=by
 have hkl:=(List.getElem?_eq_some_iff.1 hk).1
 rw[show l.length - k=(l.length - (k+1))+1 by omega,List.take_add_one,Z03 l hk]
 rfl
attribute [local go_sem] Oper.semAt_some
theorem Z07 (va:Option Addr) (m vc:Nat) (w:World):Calls Tryz.prog 94 #[.slice va m vc] w
  fun e w'=>e=.returned (.func (.func 127) #[] #[.pointer (some ⟨w.heap.size,0,none⟩)])∧w'=w.alloc (.cells #[.slice va m vc] 34):=by
 go_enter Tryz.func94,Tryz.ntmps94
 go_wp2_with fail
 go_ret
 exact ⟨rfl,rfl⟩
theorem Ru (n:Nat) (hn:1≤n) (Bs:Nat) (v:Value) (l:List El) (R:Nat→Prop) (w:World) (hv:Z4 El.cells 4 w v l) (hsz:l.length≤1000000) (hB:w.cell? ⟨Bs,0,none⟩=some v) (hRB:¬ R Bs) (hRv:l≠[]→∀ b o m c,v=.slice (some ⟨b,o,none⟩) m c→¬ R b∧b<w.heap.size) :
  Uw Tryz.prog n 127 #[.pointer (some ⟨Bs,0,none⟩)] (fun x:Nat × El=>#[.int .i64 x.1,.agg #[.int .i64 x.2.id.n,.int .i64 x.2.id.r,.int .i64 x.2.ch,.bool x.2.gone]]) R (Ze l) w:=by
 intro lb I W hl hb hI hY h0
 obtain ⟨va,vc,rfl,hcap,hmax,hcs⟩:=hv
 unfold maxLen at hmax
 have hBl:=Zj hB
 have HC:=Lib.hid hcs
 have HI:=Lib.hid hI
 have HY:=Lib.hid hY
 have HB:=Jh (Z0 hb hB)
 have HV:=Lib.hid hRv
 have HBB:=Lib.hid hb
 clear hcs hI hY hRv hb hB
 refine callsIn_of_wp Tryz.func127 rfl trivial ?_ rfl
 simp only[Tryz.ntmps127,List.size_toArray,List.length_cons,List.length_nil,Nat.reduceAdd,Nat.reduceSub,Array.replicate_succ,Array.replicate_zero,List.push_toArray,List.append_toArray,List.nil_append,List.cons_append]
 have b0:=HB.out
 gi_wp2
 have hS0:Z4 El.cells 4 W (.slice va l.length vc) l:=(show Z4 El.cells 4 w (.slice va l.length vc) l from ⟨va,vc,rfl,hcap,by unfold maxLen;omega,HC.out⟩).ext (Ext.mono (S:=fun _=>False) ⟨HBB.out.os,HBB.out.tape,HBB.out.output,HBB.out.size,fun k hk _=>HBB.out.block k hk⟩ (fun _ _ h=>h)) (fun _ _ _ _ _ h=>h)
 gi_loopw [3] (fun iv wr=>∃ (k:Nat) (j:Int),j+1=(k:Int)∧k≤l.length∧iv=.int .i64 j∧wr.cell? ⟨Bs,0,none⟩=some (.slice va l.length vc)∧Z4 El.cells 4 wr (.slice va l.length vc) l∧I ((Ze l).take (l.length - k)) wr) (fun iv _=>(intOf iv+1).toNat)
 case atStart=>exact ⟨l.length,(l.length:Int) - 1,by omega,Nat.le_refl _,rfl,HB.out,hS0,by rw[Nat.sub_self];exact h0⟩
 case round =>
  clear b0 hS0 h0
  obtain ⟨k,j,hj,hk,rfl,b0,hS,hi⟩:=hrel
  by_cases hk0:0<k
  ·obtain ⟨q,rfl⟩:∃ q,k=q+1:=⟨k - 1,by omega⟩
   obtain rfl:j=(q:Int):=by omega
   obtain ⟨x,hx⟩:∃ x,l[q]?=some x:=⟨_,List.getElem?_eq_getElem (by omega)⟩
   obtain ⟨_,_,e1,_,_,h4⟩:=id hS
   cases e1
   obtain ⟨b,o,rfl,hcc⟩:=h4 (by intro e;rw[e] at hx;simp at hx)
   have x0:wr.cell? ⟨b,o+q*4,none⟩=some (.int .i64 x.id.n):=hcc q x hx 0 _ rfl
   have x1:wr.cell? ⟨b,o+q*4+1,none⟩=some (.int .i64 x.id.r):=hcc q x hx 1 _ rfl
   have x2:wr.cell? ⟨b,o+q*4+2,none⟩=some (.int .i64 x.ch):=hcc q x hx 2 _ rfl
   have x3:wr.cell? ⟨b,o+q*4+3,none⟩=some (.bool x.gone):=hcc q x hx 3 _ rfl
   have HT:=Jh (T9 l hx)
   have hne0:l≠[]:=by intro e;rw[e] at hx;simp at hx
   obtain ⟨fn,tmps,assign,body,hy,hR⟩:=HY.out ((Ze l).take (l.length - (q+1))) (q,x) wr hi (by rw[HT.out];exact List.take_prefix _ _)
   dsimp only at hy
   have hql:(q:Int)<(l.length:Int):=by omega
   clear hcc h4 hx hj
   gi_wp2
   refine hR.mono ?_
   rintro e W3 ⟨rfl,hI3,hx3⟩
   obtain ⟨v1,v2⟩:=HV.out hne0 b o _ _ rfl
   have hne:¬ (Bs=lb∨R Bs):=fun h=>by
    rcases h with h|h
    ·omega
    ·exact hRB h
   have B3:=Jh (hx3.keep b0 hne)
   have S3:=Jh (hS.ext hx3 (fun b' o' m c e h=>by
    cases e
    rcases h with h|h
    ·omega
    ·exact v1 h))
   rw[HT.out] at hI3
   clear b0 hS x0 x1 x2 x3 hi hx3 hy hR v1 v2 hne
   gi_wp2
   go_roundw
   case rel=>exact ⟨q,(q:Int) - 1,by omega,by omega,rfl,B3.out,S3.out,hI3⟩
   case measure=>simp[intOf]
  ·obtain rfl:k=0:=by omega
   obtain rfl:j=-1:=by omega
   gi_wp2
   go_end0
   have e0:(Ze l).take (l.length - 0)=Ze l:=List.take_of_length_le (by rw[Xw];omega)
   rw[e0] at hi
   exact ⟨⟨_,rfl⟩,hi⟩
section
variable {P:Program} {α:Type} {ea:α→List Value} {k sz blk n:Nat} {T:TypeId} {w:World} {f:Nat→α}
theorem Uj (b o j:Nat):(⟨b,o,none⟩:Addr).add j=⟨b,o+j,none⟩:=by unfold Addr.add;split <;> simp_all
structure XM (P:Program) (T:TypeId) (k:Nat):Prop where
 agg:∀ w,(isAgg T).run P w=.ok true w
 size:∀ w,(sizeOf T).run P w=.ok k w
theorem Z8.load (h:Z8 ea k T sz w blk n f) (hk:∀ x,(ea x).length=k) (ht:XM P T k) {i:Nat} (hi:i<n) :
  (Instr.loadAt T (.pointer (some ⟨blk,i*k,none⟩))).run P w=.ok (.agg (ea (f i)).toArray) w:=by
 have hl:=run_loadCells_list (P:=P) w ⟨blk,i*k,none⟩ (ea (f i)) (fun j v hj=>by rw[Uj];exact h.cell hi hj)
 rw[hk] at hl
 simp[Instr.loadAt,Instr.sureAddr,loadVar,ht.agg,ht.size,hl]
theorem Z8.store (h:Z8 ea k T sz w blk n f) (hk:∀ x,(ea x).length=k) (h1:∀ x,∀ u∈ea x,u.oneCell'=true) (ht:XM P T k) {i:Nat} (hi:i<n) (x:α) :
  ∃ w',(Instr.storeAt T (.pointer (some ⟨blk,i*k,none⟩)) (.agg (ea x).toArray)).run P w=.ok () w'∧Z8 ea k T sz w' blk n (upd f i x)∧Ext (·=blk) w w':=by
 obtain ⟨cur,hg,hs,hn,hf⟩:=h
 have hik:i*k+k≤n*k:=by
  have:=Nat.mul_le_mul_right k (show i+1≤n from hi)
  rwa [Nat.add_mul,Nat.one_mul] at this
 have hst:=run_storeCells_at P blk (i*k) T (ea x) 0 cur w hg (by rw[hk];omega) (h1 x)
 rw[hk,Nat.add_zero] at hst
 refine ⟨w.setRow blk (cur.toList.take (i*k)++ea x++cur.toList.drop (i*k+k)).toArray,?_,⟨_,setRow_heap w blk _ _ _ _ hg,?_,hn,fun p hp j u hj=>?_⟩,⟨rfl,rfl,rfl,by simp[World.setRow],fun q hq hn=>by simp[World.setRow,Array.getElem?_modify];intro e;exact absurd e.symm hn⟩⟩
 ·simp[Instr.storeAt,Instr.sureAddr,storeVar,ht.size,Value.cells,hk,hst]
 ·rw[List.size_toArray,List.length_append,List.length_append,List.length_take,List.length_drop,hk,Array.length_toList]
  omega
 ·have hjk:∀ y,(ea y)[j]?=some u→j<k:=fun y hy=>by rw[←hk y];exact (List.getElem?_eq_some_iff.1 hy).1
  rw[List.getElem?_toArray,List.append_assoc]
  by_cases hpi:p=i
  ·subst hpi
   rw[RD] at hj
   have:=hjk x hj
   rw[List.getElem?_append_right (by rw[List.length_take,Array.length_toList];omega),List.length_take,Array.length_toList,Nat.min_eq_left (by omega),show p*k+j - p*k=j by omega,List.getElem?_append_left (by rw[hk];exact this)]
   exact hj
  ·rw[Sx _ _ hpi] at hj
   have hjl:=hjk (f p) hj
   have h0:=hf p hp j u hj
   rcases Nat.lt_or_gt_of_ne hpi with hlt|hgt
   ·have:=Nat.mul_le_mul_right k (show p+1≤i from hlt)
    rw[Nat.add_mul,Nat.one_mul] at this
    rw[List.getElem?_append_left (by rw[List.length_take,Array.length_toList];omega),List.getElem?_take,if_pos (by omega),Array.getElem?_toList]
    exact h0
   ·have:=Nat.mul_le_mul_right k (show i+1≤p from hgt)
    rw[Nat.add_mul,Nat.one_mul] at this
    rw[List.getElem?_append_right (by rw[List.length_take,Array.length_toList];omega),List.length_take,Array.length_toList,Nat.min_eq_left (by omega),List.getElem?_append_right (by rw[hk];omega),hk,List.getElem?_drop,show i*k+k+(p*k+j - i*k - k)=p*k+j by omega,Array.getElem?_toList]
    exact h0
theorem VD {α:Type} (f:Nat→α) (p q:Nat):Yk f p q=upd (upd f p (f q)) q (f p):=by
 funext t
 unfold Yk upd
 by_cases h1:t=p <;> by_cases h2:t=q <;> simp_all
theorem ZQ {o:Oper} {ρ:Operand→Value} {T:TypeId} {x:Operand} {q v:Value} {W:World} (ho:o.op=.load T x) (hx:ρ x=q) (h:(Instr.loadAt T q).run P W=.ok v W):(execOp ρ o).run P W=.ok (.value v) W:=by
 unfold execOp;simp[ho,hx,h,Result.andThen]
theorem YR {o:Oper} {ρ:Operand→Value} {T:TypeId} {p x:Operand} {q v:Value} {W W':World} (ho:o.op=.store T p x) (hp:ρ p=q) (hx:ρ x=v) (h:(Instr.storeAt T q v).run P W=.ok () W'):(execOp ρ o).run P W=.ok .skip W':=by
 unfold execOp;simp[ho,hp,hx,h,Result.andThen]
theorem V8 {F:Fence} {m:Nat} {ops:Array Oper} {rest:List Oper} {o:Oper} {a:Act} {Q:Exit→Act→World→Prop} {W:World} (hg:o.guard=none) {x:Operand} {q v:Value} (ho:o.op=.load T x) (hx:a.eval x=q)
  (hr:(Instr.loadAt T q).run P W=.ok v W) (h:wpListIn F m P ops Q rest (a.put o.dst v) W):wpListIn F m P ops Q (o :: rest) a W:=by
 refine wpListIn_plain hg fun K hK'=>?_
 unfold Oper.wpIn
 refine ⟨?_,?_⟩
 ·simp[Oper.about,ho]
 ·rw[Oper.semAt_plain F _ _ (by rw[ho];intro c hc';cases hc')]
  simp[execOp,ho,hx,hr,Result.andThen]
  exact hK' _ _ h
theorem XE {ops:Array Oper} {rest:List Oper} {o:Oper} {a:Act} {Q:Exit→Act→World→Prop} {W:World} (hg:o.guard=none) {x:Operand} {q v:Value} (ho:o.op=.load T x) (hx:a.eval x=q)
  (hr:(Instr.loadAt T q).run P W=.ok v W) (h:wpList P ops Q rest (a.put o.dst v) W):wpList P ops Q (o :: rest) a W :=
 wpList_plain hg fun _ hK=>by
  rw[Oper.wp,ZQ ho hx hr]
  exact hK _ _ h
end
attribute [local go_sem] Oper.semAt_some
theorem QJ (va:Option Addr) (m vc:Nat) (w:World):Calls Tryz.prog 96 #[.slice va m vc] w
  fun e w'=>e=.returned (.func (.func 128) #[] #[.pointer (some ⟨w.heap.size,0,none⟩)])∧w'=w.alloc (.cells #[.slice va m vc] 37):=by
 go_enter Tryz.func96,Tryz.ntmps96
 go_wp2_with fail
 go_ret
 exact ⟨rfl,rfl⟩
theorem Rk (n:Nat) (hn:1≤n) (Bs:Nat) (v:Value) (l:List OpD) (R:Nat→Prop) (w:World) (hv:Z4 OpD.cells 26 w v l) (hsz:l.length≤1000000) (hB:w.cell? ⟨Bs,0,none⟩=some v) (hRB:¬ R Bs) (hRv:l≠[]→∀ b o m c,v=.slice (some ⟨b,o,none⟩) m c→¬ R b∧b<w.heap.size) :
  Uw Tryz.prog n 128 #[.pointer (some ⟨Bs,0,none⟩)] (fun x:Nat × OpD=>#[.int .i64 x.1,.agg (OpD.cells x.2).toArray]) R (Ze l) w:=by
 intro lb I W hl hb hI hY h0
 obtain ⟨va,vc,rfl,hcap,hmax,hcs⟩:=hv
 unfold maxLen at hmax
 have hBl:=Zj hB
 have HC:=Lib.hid hcs
 have HI:=Lib.hid hI
 have HY:=Lib.hid hY
 have HB:=Jh (Z0 hb hB)
 have HV:=Lib.hid hRv
 have HBB:=Lib.hid hb
 clear hcs hI hY hRv hb hB
 refine callsIn_of_wp Tryz.func128 rfl trivial ?_ rfl
 simp only[Tryz.ntmps128,List.size_toArray,List.length_cons,List.length_nil,Nat.reduceAdd,Nat.reduceSub,Array.replicate_succ,Array.replicate_zero,List.push_toArray,List.append_toArray,List.nil_append,List.cons_append]
 have b0:=HB.out
 gi_wp2
 have hS0:Z4 OpD.cells 26 W (.slice va l.length vc) l:=(show Z4 OpD.cells 26 w (.slice va l.length vc) l from ⟨va,vc,rfl,hcap,by unfold maxLen;omega,HC.out⟩).ext (Ext.mono (S:=fun _=>False) ⟨HBB.out.os,HBB.out.tape,HBB.out.output,HBB.out.size,fun k hk _=>HBB.out.block k hk⟩ (fun _ _ h=>h)) (fun _ _ _ _ _ h=>h)
 gi_loopw [3] (fun iv wr=>∃ (k:Nat) (j:Int),j+1=(k:Int)∧k≤l.length∧iv=.int .i64 j∧wr.cell? ⟨Bs,0,none⟩=some (.slice va l.length vc)∧Z4 OpD.cells 26 wr (.slice va l.length vc) l∧I ((Ze l).take (l.length - k)) wr) (fun iv _=>(intOf iv+1).toNat)
 case atStart=>exact ⟨l.length,(l.length:Int) - 1,by omega,Nat.le_refl _,rfl,HB.out,hS0,by rw[Nat.sub_self];exact h0⟩
 case round =>
  clear b0 hS0 h0
  obtain ⟨k,j,hj,hk,rfl,b0,hS,hi⟩:=hrel
  by_cases hk0:0<k
  ·obtain ⟨q,rfl⟩:∃ q,k=q+1:=⟨k - 1,by omega⟩
   obtain rfl:j=(q:Int):=by omega
   obtain ⟨x,hx⟩:∃ x,l[q]?=some x:=⟨_,List.getElem?_eq_getElem (by omega)⟩
   obtain ⟨_,_,e1,_,_,h4⟩:=id hS
   cases e1
   obtain ⟨b,o,rfl,hcc⟩:=h4 (by intro e;rw[e] at hx;simp at hx)
   have hld:(Instr.loadAt 181 (.pointer (some ⟨b,o+q*26,none⟩))).run Tryz.prog wr=.ok (.agg (OpD.cells x).toArray) wr:=by
    have hl:=run_loadCells_list (P:=Tryz.prog) wr ⟨b,o+q*26,none⟩ (OpD.cells x) (fun j v hj=>by rw[Uj];exact hcc q x hx j v hj)
    rw[OpD.len] at hl
    simp[Instr.loadAt,Instr.sureAddr,loadVar,Tryz.isAgg181,Tryz.sizeOf181,hl]
   have HT:=Jh (T9 l hx)
   have hne0:l≠[]:=by intro e;rw[e] at hx;simp at hx
   obtain ⟨fn,tmps,assign,body,hy,hR⟩:=HY.out ((Ze l).take (l.length - (q+1))) (q,x) wr hi (by rw[HT.out];exact List.take_prefix _ _)
   dsimp only at hy
   have hql:(q:Int)<(l.length:Int):=by omega
   clear hcc h4 hx hj
   have HLD:=Lib.hid hld
   clear hld
   gi_wp2_with (refine V8 (o:=⟨some 16,_,_,_,_,_⟩) rfl rfl rfl HLD.out ?_)
   refine hR.mono ?_
   rintro e W3 ⟨rfl,hI3,hx3⟩
   obtain ⟨v1,v2⟩:=HV.out hne0 b o _ _ rfl
   have hne:¬ (Bs=lb∨R Bs):=fun h=>by
    rcases h with h|h
    ·omega
    ·exact hRB h
   have B3:=Jh (hx3.keep b0 hne)
   have S3:=Jh (hS.ext hx3 (fun b' o' m c e h=>by
    cases e
    rcases h with h|h
    ·omega
    ·exact v1 h))
   rw[HT.out] at hI3
   clear b0 hS HLD hi hx3 hy hR v1 v2 hne
   gi_wp2
   go_roundw
   case rel=>exact ⟨q,(q:Int) - 1,by omega,by omega,rfl,B3.out,S3.out,hI3⟩
   case measure=>simp[intOf]
  ·obtain rfl:k=0:=by omega
   obtain rfl:j=-1:=by omega
   gi_wp2
   go_end0
   have e0:(Ze l).take (l.length - 0)=Ze l:=List.take_of_length_le (by rw[Xw];omega)
   rw[e0] at hi
   exact ⟨⟨_,rfl⟩,hi⟩
def Yv (i:Int):Value:=.int .i64 i
theorem XU:Tryz.prog.underlying 135=some (.map 23 3):=by kernel_rfl
theorem U1 (w:World):(zeroValue 3).run Tryz.prog w=.ok (.int .i64 0) w:=by kernel_rfl
attribute [local go_sem] Z6.alloc Z6.drew Z6.setCell
def atI (hl:List (St × Int)) (a:St) (aft:Bool):Int:=(Z5 hl a).getD 0+if aft=true then 1 else 0
theorem Z22 (pb mh:Nat) (hl:List (St × Int)) (a:St) (aft:Bool) (w:World) (hc:w.cell? ⟨pb,0,none⟩=some (.map (some mh))) (hm:Z6 St.val Yv w mh hl) (hb:∀ k i,Z5 hl k=some i→0≤i∧i≤1000) :
  Calls Tryz.prog 95 #[.agg #[.int .i64 a.n,.int .i64 a.r,.bool aft],.pointer (some ⟨pb,0,none⟩)] w
   fun e w'=>e=.returned (.tuple #[.int .i64 (atI hl a aft),.bool (Z5 hl a).isSome])∧Below w.heap.size w w':=by
 have hlt:=Zj hc
 have hi:0≤(Z5 hl a).getD 0∧(Z5 hl a).getD 0≤1000:=by
  cases h:Z5 hl a with
  | none=>simp
  | some i=>exact hb a i h
 have hlk:∀ W,Z6 St.val Yv W mh hl→(Instr.lookup 135 (.map (some mh)) (.agg #[.int .i64 a.n,.int .i64 a.r]) true).run Tryz.prog W=.ok (.tuple #[.int .i64 ((Z5 hl a).getD 0),.bool (Z5 hl a).isSome]) W:=fun W hW=>by
  have:=hW.lookupOk ZL XU U1 a
  rw[show ((Z5 hl a).map Yv).getD (.int .i64 0)=.int .i64 ((Z5 hl a).getD 0) from by cases Z5 hl a <;> rfl] at this
  exact this
 unfold atI
 generalize (Z5 hl a).getD 0=i at *
 generalize (Z5 hl a).isSome=is at *
 obtain ⟨i0,i1⟩:=hi
 clear hb
 cases aft with
 | false =>
  go_enter Tryz.func95,Tryz.ntmps95
  go_wp2_with fail
  go_ret2
  exact ⟨by simp,(Below.refl _ _).alloc (Nat.le_refl _) _⟩
 | true =>
  go_enter Tryz.func95,Tryz.ntmps95
  go_wp2_with fail
  go_ret2
  exact ⟨by simp,(Below.refl _ _).alloc (Nat.le_refl _) _⟩
def Zy (pre:List (Nat × El)):List (St × Int):=pre.foldl (fun h p=>Zx h p.2.id (p.1:Int)) []
theorem Qn (pre:List (Nat × El)) (x:Nat × El):Zy (pre++[x])=Zx (Zy pre) x.2.id (x.1:Int):=by simp[Zy]
def ZM (l:List El) (k:St):Option Nat:=l.findIdx? (fun x=>decide (x.id=k))
theorem SK (k:St):∀ (l:List El) (n:Nat),Z5 (((l.zipIdx n).map fun p=>(p.2,p.1)).foldr (fun (p:Nat × El) h=>Zx h p.2.id (p.1:Int)) []) k=(ZM l k).map (fun i=>((n+i:Nat):Int))
 | [],n=>by simp[ZM,Z5]
 | x :: l,n=>by
  have ih:=SK k l (n+1)
  simp only[List.zipIdx_cons,List.map_cons,List.foldr_cons]
  unfold ZM at ih ⊢
  rw[List.findIdx?_cons]
  by_cases h:x.id=k
  ·subst h
   rw[ZU]
   simp
  ·rw[ZE _ _ h,ih]
   simp only[h,decide_false,Bool.false_eq_true,if_false,Option.map_map]
   congr 1
   funext i
   simp only[Function.comp_apply]
   omega
theorem VA (l:List El) (k:St):Z5 (Zy (Ze l)) k=(ZM l k).map (fun i:Nat=>(i:Int)):=by
 unfold Zy Ze
 rw[List.foldl_reverse]
 have:=SK k l 0
 simp only[Nat.zero_add] at this
 exact this
theorem U6 {l:List El} {k:St} {i:Nat} (h:ZM l k=some i):i<l.length:=by
 unfold ZM at h
 rw[List.findIdx?_eq_some_iff_findIdx_eq] at h
 exact h.1
theorem Qk {l:List El} (hl:l.length≤1000) (k:St) (i:Int) (h:Z5 (Zy (Ze l)) k=some i):0≤i∧i≤1000:=by
 rw[VA] at h
 cases hp:ZM l k with
 | none=>rw[hp] at h;cases h
 | some j =>
  rw[hp] at h
  have:=U6 hp
  simp at h
  omega
theorem QQ {α:Type} {l:List α} {x:Nat × α} (h:x∈Ze l):x.2∈l:=by
 unfold Ze at h
 rw[List.mem_reverse,List.mem_map] at h
 obtain ⟨⟨y,i⟩,h1,rfl⟩:=h
 exact List.mem_of_getElem? (List.mem_zipIdx_iff_getElem?.1 h1)
def Yg (h:List (St × Int)) (o:OpD):Option Zc:=if ((Z5 h o.fr).isSome && (Z5 h o.tr).isSome)=true then some ⟨o,atI h o.fr o.fa,atI h o.tr o.ta⟩ else none
def Yq (h:List (St × Int)) (pre:List (Nat × OpD)):List Zc:=pre.filterMap fun p=>Yg h p.2
theorem SW (h:List (St × Int)) (pre:List (Nat × OpD)) (x:Nat × OpD):Yq h (pre++[x])=Yq h pre++(Yg h x.2).toList:=by
 unfold Yq
 rw[List.filterMap_append]
 congr 1
theorem VN (h:List (St × Int)) (pre:List (Nat × OpD)):(Yq h pre).length≤pre.length:=List.length_filterMap_le _ _
section
variable {α:Type} {ea:α→List Value} {k:Nat} {e:TypeId} {base:Nat} {w:World} {v:Value} {l:List α}
theorem W9 {F:Fence} {n:Nat} {P:Program} {ops:Array Oper} {rest:List Oper} {o:Oper} {a:Act} {Q:Exit→Act→World→Prop} (hgd:o.guard=none) (s x:Operand) (t:TypeId)
  (ho:o.op=.call { callee:=.builtin .append,args:=#[s,x],argTypes:=#[t,t] })
  (i:TypeInfo) (z:Value) (bytes:Nat) (ht:P.underlying t=some (.slice e)) (hi:P.info? e=some i) (hz:i.zero=some z)
  (hsize:i.size=k) (hby:i.bytes=bytes) (hzs:z.cells.size=k) (hk0:0<k) (hk:∀ x,(ea x).length=k) (h1:∀ x,∀ u∈ea x,u.oneCell'=true)
  (hs:a.eval s=v) (hown:Own ea k e base w v l) (y:α) (nb c:Nat) (hx:a.eval x=.slice (some ⟨nb,0,none⟩) 1 c) (hnews:∀ j u,(ea y)[j]?=some u→w.cell? ⟨nb,j,none⟩=some u)
  (h63:l.length+1≤maxLen) (hbytes:(l.length+1)*bytes≤140737488355328) (hbase:base≤w.heap.size)
  (h:∀ v' w',Own ea k e base w' v' (l++[y])→Ext (fun b=>v.ownBlock=some b) w w'→wpListIn F n P ops Q rest (a.put o.dst v') w'):wpListIn F n P ops Q (o :: rest) a w:=by
 refine wpListIn_append_own w hgd s x t ho base e i z k bytes ht hi hz hsize hby hzs hk0 v l.length (l.flatMap ea) hs hown ⟨nb,0,none⟩ 1 c (ea y) hx (by rw[hk,Nat.one_mul]) (fun j u hj=>?_) (h1 y) h63 hbytes hbase (fun v' w' h2 h3 _=>h v' w' ?_ (Ext.of_grown h3))
 ·have:=hnews j u hj
  rw[show (Addr.add ⟨nb,0,none⟩ j)=⟨nb,j,none⟩ from by unfold Addr.add;split <;> simp_all]
  exact this
 ·unfold Own
  rw[List.length_append,List.flatMap_append]
  simpa using h2
end
section
variable {cap sz blk n:Nat} {lt:(Zc × Nat)→(Zc × Nat)→Prop}
abbrev Zh (p:Zc × Nat):List Value:=Zc.cells p.1
theorem Yi (x:(Zc × Nat)):(Zh x).length=28:=rfl
theorem Vx (x:(Zc × Nat)):∀ u∈Zh x,u.oneCell'=true:=fun u hu=>List.all_eq_true.1 (show (Zh x).all (fun v=>v.oneCell')=true from rfl) u hu
theorem YS:XM Tryz.prog 183 28:=⟨Tryz.isAgg183,Tryz.sizeOf183⟩
theorem V6 (a b m:Nat) (f:Nat→(Zc × Nat)) (fv:Value) (w:World) (hS:Z8 Zh 28 183 sz w blk n f) (h1:a+m≤b) (h2:b+m≤n) (hcap:n≤cap) (hn:cap≤maxLen) :
  Calls Tryz.prog 153 #[.slice (some ⟨blk,0,none⟩) n cap,.int .i64 a,.int .i64 b,.int .i64 m,fv] w fun e w'=>(∃ v,e=.returned v)∧Z8 Zh 28 183 sz w' blk n (Xi f a b m)∧Ext (·=blk) w w':=by
 unfold maxLen at hn
 go_enter Tryz.func153,Tryz.ntmps153
 go_wp2_with fail
 go_loopg [10] m (fun g iv wx=>∃ i:Nat,g=m - i∧i≤m∧iv=.int .i64 i∧Z8 Zh 28 183 sz wx blk n (Xi f a b i)∧Ext (·=blk) w wx)
 case atStart=>exact ⟨0,rfl,Nat.zero_le _,rfl,by rw[QI];exact hS,Ext.refl _ _⟩
 case round =>
  obtain ⟨i,hg,hi,rfl,hW,hx⟩:=hrel
  have HG:=Lib.hid hg
  clear hg hS
  have HX:=Lib.hid hx
  clear hx
  by_cases hlt:i<m
  ·have hp:a+i<n:=by omega
   have hq:b+i<n:=by omega
   have HW:Hid (Yk (Xi f a b i) (a+i) (b+i)=Xi f a b (i+1)):=Z0g f (by omega)
   generalize Xi f a b i=g0 at *
   have HSL:=Lib.hid hW
   clear hW
   have iap:(0:Int)≤(a:Int)+(i:Int):=by omega
   have ibp:(a:Int)+(i:Int)<(n:Int):=by omega
   have icp:((a:Int)+(i:Int)).toNat=a+i:=by omega
   have idp:IntKind.i64.wrap ((a:Int)+(i:Int))=(a:Int)+(i:Int):=IntWalk.i64_in _ (by omega)
   have iaq:(0:Int)≤(b:Int)+(i:Int):=by omega
   have ibq:(b:Int)+(i:Int)<(n:Int):=by omega
   have icq:((b:Int)+(i:Int)).toNat=b+i:=by omega
   have idq:IntKind.i64.wrap ((b:Int)+(i:Int))=(b:Int)+(i:Int):=IntWalk.i64_in _ (by omega)
   go_wp2_with fail
   refine Zf (fun W=>Z8 Zh 28 183 sz W blk n g0) (fun i=>!(i == 13 || i == 19)) (by kernel_rfl) ?_
   have hS0:Z8 Zh 28 183 sz wr.drew blk n g0:=HSL.out.drew
   have X0:Ext (·=blk) wr wr.drew:=(Ext.refl _ _).drew
   generalize wr.drew=W1 at hS0 X0 ⊢
   refine Z3 (i:=0) (d:=some 16) rfl rfl rfl (by kernel_rfl) (by kernel_rfl) (by kernel_rfl) (fun _ _ _ h=>h) (.inl ⟨by rfl,fun W hW=>by go_simp;rfl⟩) ?_
   try simp only[Ja]
   refine Z3 (i:=1) (d:=some 17) rfl rfl rfl (by kernel_rfl) (by kernel_rfl) (by kernel_rfl) (fun _ _ _ h=>h) (.inl ⟨by rfl,fun W hW=>by go_simp;rfl⟩) ?_
   try simp only[Ja]
   refine Z3 (i:=2) (d:=some 18) rfl rfl rfl (by kernel_rfl) (by kernel_rfl) (by kernel_rfl) (fun _ _ _ h=>h) (.inl ⟨by rfl,fun W hW=>by go_simp;rfl⟩) ?_
   try simp only[Ja]
   refine Z3 (i:=3) (d:=some 19) rfl rfl rfl (by kernel_rfl) (by kernel_rfl) (by kernel_rfl) (fun _ _ _ h=>h) (.inl ⟨by rfl,fun W hW=>by go_simp;rfl⟩) ?_
   try simp only[Ja]
   refine Z3 (i:=4) (d:=some 20) rfl rfl rfl (by kernel_rfl) (by kernel_rfl) (by kernel_rfl) (fun _ _ _ h=>h) (.inl ⟨by rfl,fun W hW=>by go_simp;rfl⟩) ?_
   try simp only[Ja]
   refine Z3 (i:=5) (d:=some 21) rfl rfl rfl (by kernel_rfl) (by kernel_rfl) (by kernel_rfl) (fun _ _ _ h=>h) (.inl ⟨by rfl,fun W hW=>by go_simp;rfl⟩) ?_
   try simp only[Ja]
   refine Z3 (i:=6) (d:=some 22) rfl rfl rfl (by kernel_rfl) (by kernel_rfl) (by kernel_rfl) (fun _ _ _ h=>h) (.inl ⟨by rfl,fun W hW=>by go_simp;rfl⟩) ?_
   try simp only[Ja]
   refine Z3 (i:=7) (d:=some 23) rfl rfl rfl (by kernel_rfl) (by kernel_rfl) (by kernel_rfl) (fun _ _ _ h=>h) (.inl ⟨by rfl,fun W hW=>by go_simp;rfl⟩) ?_
   try simp only[Ja]
   refine Z3 (i:=8) (d:=some 24) rfl rfl rfl (by kernel_rfl) (by kernel_rfl) (by kernel_rfl) (fun _ _ _ h=>h) (.inl ⟨by rfl,fun W hW=>by go_simp;rfl⟩) ?_
   try simp only[Ja]
   refine Z3 (i:=9) (d:=some 25) rfl rfl rfl (by kernel_rfl) (by kernel_rfl) (by kernel_rfl) (fun _ _ _ h=>h) (.inl ⟨by rfl,fun W hW=>by go_simp;rfl⟩) ?_
   try simp only[Ja]
   refine Z3 (i:=10) (d:=some 26) rfl rfl rfl (by kernel_rfl) (by kernel_rfl) (by kernel_rfl) (fun _ _ _ h=>h) (.inl ⟨by rfl,fun W hW=>by go_simp;rfl⟩) ?_
   try simp only[Ja]
   refine Z3 (i:=11) (d:=some 27) rfl rfl rfl (by kernel_rfl) (by kernel_rfl) (by kernel_rfl) (fun _ _ _ h=>h) (.inl ⟨by rfl,fun W hW=>by go_simp;rfl⟩) ?_
   try simp only[Ja]
   refine Z3 (i:=12) (d:=some 28) rfl rfl rfl (by kernel_rfl) (by kernel_rfl) (by kernel_rfl) (fun _ _ _ h=>h) (.inl ⟨by rfl,fun W hW=>by go_simp;rfl⟩) ?_
   try simp only[Ja]
   refine Z3 (i:=14) (d:=some 30) rfl rfl rfl (by kernel_rfl) (by kernel_rfl) (by kernel_rfl) (fun _ _ _ h=>h) (.inl ⟨by rfl,fun W hW=>by go_simp;rfl⟩) ?_
   try simp only[Ja]
   refine Z3 (i:=15) (d:=some 31) rfl rfl rfl (by kernel_rfl) (by kernel_rfl) (by kernel_rfl) (fun _ _ _ h=>h) (.inl ⟨by rfl,fun W hW=>by go_simp;rfl⟩) ?_
   try simp only[Ja]
   refine Z3 (i:=16) (d:=some 32) rfl rfl rfl (by kernel_rfl) (by kernel_rfl) (by kernel_rfl) (fun _ _ _ h=>h) (.inl ⟨by rfl,fun W hW=>by go_simp;rfl⟩) ?_
   try simp only[Ja]
   refine Z3 (i:=17) (d:=some 33) rfl rfl rfl (by kernel_rfl) (by kernel_rfl) (by kernel_rfl) (fun _ _ _ h=>h) (.inl ⟨by rfl,fun W hW=>by go_simp;rfl⟩) ?_
   try simp only[Ja]
   refine Z3 (i:=18) (d:=some 34) rfl rfl rfl (by kernel_rfl) (by kernel_rfl) (by kernel_rfl) (fun _ _ _ h=>h) (.inl ⟨by rfl,fun W hW=>by go_simp;rfl⟩) ?_
   try simp only[Ja]
   refine JR 13 29 (.agg (Zh (g0 (b+i))).toArray) rfl rfl hS0 (fun W hW=>ZQ rfl rfl (Z8.load hW Yi YS hq)) ?_
   try simp only[Ja]
   refine JR 19 35 (.agg (Zh (g0 (a+i))).toArray) rfl rfl hS0 (fun W hW=>ZQ rfl rfl (Z8.load hW Yi YS hp)) ?_
   try simp only[Ja]
   refine Z3 (i:=20) (d:=some 36) rfl rfl rfl (by kernel_rfl) (by kernel_rfl) (by kernel_rfl) (fun _ _ _ h=>h) (.inl ⟨by rfl,fun W hW=>by go_simp;rfl⟩) ?_
   try simp only[Ja]
   obtain ⟨W2,st2,s2,e2⟩:=Z8.store hS0 Yi Vx YS hp (g0 (b+i))
   refine Zg (i:=21) (d:=none) (by kernel_rfl) rfl rfl (by rfl) (YR rfl rfl rfl st2) (fun h=>by cases h) ?_
   try simp only[Ja]
   refine Z3 (i:=22) (d:=some 37) rfl rfl rfl (by kernel_rfl) (by kernel_rfl) (by kernel_rfl) (fun _ _ _ h=>h) (.inl ⟨by rfl,fun W hW=>by go_simp;rfl⟩) ?_
   try simp only[Ja]
   obtain ⟨W3,st3,s3,e3⟩:=Z8.store s2 Yi Vx YS hq (g0 (a+i))
   refine Zg (i:=23) (d:=none) (by kernel_rfl) rfl rfl (by rfl) (YR rfl rfl rfl st3) (fun h=>by cases h) ?_
   try simp only[Ja]
   refine Zd (by kernel_rfl) ?_ _
   have HSW:Hid (Z8 Zh 28 183 sz W3 blk n (Yk g0 (a+i) (b+i))∧Ext (·=blk) wr W3):=Lib.hid ⟨by rw[VD];exact s3,(X0.trans e2).trans e3⟩
   clear hS0 X0 st2 s2 e2 st3 s3 e3
   clear HSL
   go_wp2_with fail
   go_roundg (m - (i+1))
   case measure=>rw[HG.out];omega
   case rel=>exact ⟨i+1,rfl,hlt,by go_num,by rw[←HW.out];exact HSW.out.1,HX.out.trans HSW.out.2⟩
  ·obtain rfl:i=m:=by omega
   go_wp2_with fail
   go_end0
   exact ⟨⟨_,rfl⟩,hW,HX.out⟩
theorem Z0m (a m b:Nat) (f:Nat→(Zc × Nat)) (fv:Value) (w:World) (hS:Z8 Zh 28 183 sz w blk n f) (h1:a<m) (h2:m<b) (h3:b≤n) (hcap:n≤cap) (hn:cap≤maxLen) :
  Calls Tryz.prog 148 #[.slice (some ⟨blk,0,none⟩) n cap,.int .i64 a,.int .i64 m,.int .i64 b,fv] w fun e w'=>(∃ v,e=.returned v)∧Z8 Zh 28 183 sz w' blk n (Ys f a m b)∧Ext (·=blk) w w':=by
 have hn0:=hn
 unfold maxLen at hn
 have HN:=Lib.hid hn0
 clear hn0
 go_enter Tryz.func148,Tryz.ntmps148
 go_wp2_with fail
 go_loopg [10,11] (b - a) (fun g iv jv wx=>∃ (i j:Nat) (f':Nat→(Zc × Nat)),g=i+j∧0<i∧i≤m - a∧0<j∧j≤b - m∧iv=.int .i64 i∧jv=.int .i64 j∧Z8 Zh 28 183 sz wx blk n f'∧Hid (Ys f' (m - i) m (m+j)=Ys f a m b)∧Ext (·=blk) w wx)
 case atStart =>
  refine ⟨m - a,b - m,f,by omega,by omega,Nat.le_refl _,by omega,Nat.le_refl _,by go_num,by go_num,hS,Lib.hid ?_,Ext.refl _ _⟩
  rw[show m - (m - a)=a by omega,show m+(b - m)=b by omega]
 case round =>
  obtain ⟨i,j,f',hg,hi0,hi,hj0,hj,rfl,rfl,hW,hr,hx⟩:=hrel
  have HG:=Lib.hid hg
  clear hg hS
  have HX:=Lib.hid hx
  clear hx
  have ei:((m:Int) - (i:Int))=((m - i:Nat):Int):=by omega
  by_cases hij:i=j
  ·obtain rfl:=hij
   go_wp2_with fail
   (with_reducible refine (V6 (m - i) m i f' _ _ hW (by omega) (by omega) hcap HN.out).mono ?_)
   rintro e w5 ⟨⟨v5,rfl⟩,s5,x5⟩
   go_wp2_with fail
   go_end0
   rw[Z3p f' (by omega),hr.out] at s5
   exact ⟨⟨_,rfl⟩,s5,HX.out.trans x5⟩
  ·by_cases hgt:j<i
   ·have ej:((i:Int) - (j:Int))=((i - j:Nat):Int):=by omega
    go_wp2_with fail
    (with_reducible refine (V6 (m - i) m j f' _ _ hW (by omega) (by omega) hcap HN.out).mono ?_)
    rintro e w5 ⟨⟨v5,rfl⟩,s5,x5⟩
    go_wp2_with fail
    go_roundg (i - j+j)
    case measure=>rw[HG.out];omega
    case rel=>exact ⟨i - j,j,_,rfl,by omega,by omega,hj0,hj,by go_num,rfl,s5,Jh ((Z3q f' (by omega) hgt).trans hr.out),HX.out.trans x5⟩
   ·have ej:((j:Int) - (i:Int))=((j - i:Nat):Int):=by omega
    have ek:((m:Int)+(j:Int) - (i:Int))=((m+j - i:Nat):Int):=by omega
    go_wp2_with fail
    (with_reducible refine (V6 (m - i) (m+j - i) i f' _ _ hW (by omega) (by omega) hcap HN.out).mono ?_)
    rintro e w5 ⟨⟨v5,rfl⟩,s5,x5⟩
    go_wp2_with fail
    go_roundg (i+(j - i))
    case measure=>rw[HG.out];omega
    case rel=>exact ⟨i,j - i,_,rfl,hi0,hi,by omega,by omega,rfl,by go_num,s5,Jh ((Z3t f' (by omega) (by omega)).trans hr.out),HX.out.trans x5⟩
end
end Go.Proofs.YtlgipkemoldckaaGreatDoor
