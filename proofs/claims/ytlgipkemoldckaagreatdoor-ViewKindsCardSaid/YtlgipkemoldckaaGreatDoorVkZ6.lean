/- ViewKinds, part 6 of what the proof leans on (made short by a program). -/
import Derived.Test.YtlgipkemoldckaaGreatDoorVkZ5
set_option linter.unusedSimpArgs false
set_option linter.unusedVariables false
set_option linter.unusedSectionVars false
set_option maxRecDepth 20000
set_option maxHeartbeats 30000000
namespace Go.Proofs.YtlgipkemoldckaaGreatDoor
open Go.RowKit
structure Wr where
 at_:St
 value:ByteArray
 deriving DecidableEq
def Wr.val (x:Wr):Value:=.agg #[.int .i64 x.at_.n,.int .i64 x.at_.r,.string x.value]
structure Ys (w:World) (r mv ma:Nat) (vs:List (Pl × Wr)) (ats:List (St × Bool)):Prop where
 c0:w.cell? ⟨r,0,none⟩=some (.map (some mv))
 c1:w.cell? ⟨r,1,none⟩=some (.map (some ma))
 hv:Z6 Pl.val Wr.val w mv vs
 ha:Z6 St.val Value.bool w ma ats
 ne:mv≠ma
theorem UF (w:World):(zeroValue 4).run Tryz.prog w=.ok (.bool false) w:=by kernel_rfl
theorem Xm (w:World):(zeroValue 97).run Tryz.prog w=.ok (.agg #[.int .i64 0,.int .i64 0,.string ⟨#[]⟩]) w:=by kernel_rfl
theorem VZ:Tryz.prog.underlying 91=some (.map 23 4):=by kernel_rfl
theorem W8:Tryz.prog.underlying 90=some (.map 95 97):=by kernel_rfl
theorem Z3m (w:World):Calls Tryz.prog 24 #[] w fun e w' =>
  e=.returned (.pointer (some ⟨w.heap.size+2,0,none⟩))∧w'=((w.alloc (.map #[] 0)).alloc (.map #[] 0)).alloc (.cells #[.map (some w.heap.size),.map (some (w.heap.size+1))] 93):=by
 have hmm:=@run_makeMap Tryz.prog
 go_enter Tryz.func24,Tryz.ntmps24
 go_wp2
 go_ret
 exact ⟨rfl,rfl⟩
theorem Qw (w:World) (b:Nat) (i:Option Nat) (k v:Value):Zp w.drew b i k v=(Zp w b i k v).drew:=by
 unfold Zp
 have h:w.drew.heap=w.heap:=rfl
 rw[h]
 cases hb:w.heap[b]? with
 | none=>rfl
 | some o=>cases o <;> first|rfl|(cases i <;> rfl)
theorem R0 (w:World) (b:Nat) (i:Option Nat) (k v:Value) (a:Addr):(Zp w b i k v).frozen? a=w.frozen? a:=by
 by_cases h:a.block=b
 ·subst h
  unfold Zp
  split
  ·rename_i es clock hb
   split <;> (simp only[World.frozen?,Array.getElem?_setIfInBounds,if_true,hb];split <;> simp_all)
  ·rfl
 ·exact World.frozen?_of_block (w:=w) (XP w b i k v _ h)
attribute [local go_sem] Z6.alloc Z6.drew Z6.setCell
theorem Z3A (r mv ma:Nat) (vs:List (Pl × Wr)) (ats:List (St × Bool)) (an ar bn br:Int) (nm vl:ByteArray) (w:World) (h:Ys w r mv ma vs ats) (hr:Z7 ⟨an,ar⟩=false) :
  Calls Tryz.prog 25 #[.pointer (some ⟨r,0,none⟩),.agg #[.int .i64 an,.int .i64 ar],.agg #[.int .i64 bn,.int .i64 br],.string nm,.string vl] w
   fun e w'=>e=.returned (.int .i64 1)∧Below w.heap.size w w':=by
 clear h
 go_enter Tryz.func25,Tryz.ntmps25
 go_wp2_with (go_at_call 41;refine (V2 _ _ _).mono ?_;rintro e w' ⟨rfl,hb⟩)
 go_ret
 exact ⟨rfl,((((Below.refl _ _).alloc (Nat.le_refl _) _).alloc (by simp) _).trans (hb.mono (by simp <;> omega)))⟩
theorem Z21 (r mv ma:Nat) (vs:List (Pl × Wr)) (ats:List (St × Bool)) (an ar bn br:Int) (nm vl:ByteArray) (w:World) (h:Ys w r mv ma vs ats) (hr:Z7 ⟨an,ar⟩=true)
  (ht:(Z3 ats ⟨an,ar⟩).getD false=true) :
  Calls Tryz.prog 25 #[.pointer (some ⟨r,0,none⟩),.agg #[.int .i64 an,.int .i64 ar],.agg #[.int .i64 bn,.int .i64 br],.string nm,.string vl] w
   fun e w'=>e=.returned (.int .i64 151)∧Below w.heap.size w w':=by
 obtain ⟨c0,c1,h2,h3,h4⟩:=h
 have hl:∀ W,Z6 St.val Value.bool W ma ats→(Instr.lookup 91 (.map (some ma)) (.agg #[.int .i64 an,.int .i64 ar]) false).run Tryz.prog W=.ok (.bool true) W:=fun W hW=>by
  have:=hW.lookup ZN VZ UF ⟨an,ar⟩
  simp only[St.val] at this
  rw[this]
  cases hg:Z3 ats ⟨an,ar⟩ with
  | none=>rw[hg] at ht;cases ht
  | some x=>rw[hg] at ht;simp at ht;subst ht;rfl
 clear ht
 go_enter Tryz.func25,Tryz.ntmps25
 go_wp2_with (go_at_call 41;refine (V2 _ _ _).mono ?_;rintro e w' ⟨rfl,hb⟩)
 have hm:Z6 St.val Value.bool w' ma ats:=((h3.alloc _).alloc _).below hb
 have k1:=Z0 hb (Z1 (Z1 c1 _) _)
 have k2:w'.cell? ⟨w.heap.size,0,none⟩=some (.int .i64 an):=Z0 hb (by go_simp)
 have k3:w'.cell? ⟨w.heap.size,1,none⟩=some (.int .i64 ar):=Z0 hb (by go_simp)
 go_region_held3 (fun W=>W.cell? ⟨r,1,none⟩=some (.map (some ma))∧W.cell? ⟨w.heap.size,0,none⟩=some (.int .i64 an)∧W.cell? ⟨w.heap.size,1,none⟩=some (.int .i64 ar)∧Z6 St.val Value.bool W ma ats) (simp[*,Z6.drew]) (fail)
 go_wp2
 go_ret
 exact ⟨rfl,((((Below.refl _ _).alloc (Nat.le_refl _) _).alloc (by simp) _).trans (hb.mono (by simp <;> omega))).drew⟩
attribute [local go_sem] ZR R0 Wj Qw
def W7 (x:Option Wr):St:=match x with|some y=>y.at_|none=>⟨0,0⟩
theorem Z2I (r mv ma:Nat) (vs:List (Pl × Wr)) (ats:List (St × Bool)) (an ar bn br:Int) (nm vl:ByteArray) (w:World) (h:Ys w r mv ma vs ats) (hr:Z7 ⟨an,ar⟩=true)
  (ht:(Z3 ats ⟨an,ar⟩).getD false=false) (hc:Yd (W7 (Z3 vs ⟨⟨bn,br⟩,nm⟩)) ⟨an,ar⟩<0) :
  Calls Tryz.prog 25 #[.pointer (some ⟨r,0,none⟩),.agg #[.int .i64 an,.int .i64 ar],.agg #[.int .i64 bn,.int .i64 br],.string nm,.string vl] w
   fun e w'=>e=.returned (.int .i64 0)∧Ys w' r mv ma (Zw vs ⟨⟨bn,br⟩,nm⟩ ⟨⟨an,ar⟩,vl⟩) (Zw ats ⟨an,ar⟩ true)∧Ext (fun k=>k=mv∨k=ma) w w':=by
 obtain ⟨c0,c1,h2,h3,h4⟩:=h
 have hl:∀ W,Z6 St.val Value.bool W ma ats→(Instr.lookup 91 (.map (some ma)) (.agg #[.int .i64 an,.int .i64 ar]) false).run Tryz.prog W=.ok (.bool false) W:=fun W hW=>by
  have:=hW.lookup ZN VZ UF ⟨an,ar⟩
  simp only[St.val] at this
  rw[this]
  cases hg:Z3 ats ⟨an,ar⟩ with
  | none=>rfl
  | some x=>rw[hg] at ht;simp at ht;subst ht;rfl
 clear ht
 have hu:∀ W,Z6 St.val Value.bool W ma ats→(Instr.mapUpdate 91 (.map (some ma)) (.agg #[.int .i64 an,.int .i64 ar]) (.bool true)).run Tryz.prog W=.ok () (Zp W ma (Zr ats ⟨an,ar⟩) (.agg #[.int .i64 an,.int .i64 ar]) (.bool true)) :=
  fun W hW=>hW.update ZN VZ ⟨an,ar⟩ (.bool true)
 obtain ⟨a1,a2,hat⟩:∃ a1 a2,W7 (Z3 vs ⟨⟨bn,br⟩,nm⟩)=⟨a1,a2⟩:=⟨_,_,rfl⟩
 rw[hat] at hc
 obtain ⟨x3,hl2⟩:∃ x3,∀ W,Z6 Pl.val Wr.val W mv vs→(Instr.lookup 90 (.map (some mv)) (.agg #[.int .i64 bn,.int .i64 br,.string nm]) false).run Tryz.prog W=.ok (.agg #[.int .i64 a1,.int .i64 a2,.string x3]) W:=by
  cases hg:Z3 vs ⟨⟨bn,br⟩,nm⟩ with
  | none =>
   rw[hg] at hat
   cases hat
   refine ⟨⟨#[]⟩,fun W hW=>?_⟩
   have:=hW.lookup XV W8 Xm ⟨⟨bn,br⟩,nm⟩
   rw[hg] at this
   exact this
  | some x =>
   rw[hg] at hat
   obtain ⟨⟨y1,y2⟩,y3⟩:=x
   cases hat
   refine ⟨y3,fun W hW=>?_⟩
   have:=hW.lookup XV W8 Xm ⟨⟨bn,br⟩,nm⟩
   rw[hg] at this
   exact this
 clear hat
 have hu2:∀ W,Z6 Pl.val Wr.val W mv vs→(Instr.mapUpdate 90 (.map (some mv)) (.agg #[.int .i64 bn,.int .i64 br,.string nm]) (.agg #[.int .i64 an,.int .i64 ar,.string vl])).run Tryz.prog W=.ok () (Zp W mv (Zr vs ⟨⟨bn,br⟩,nm⟩) (.agg #[.int .i64 bn,.int .i64 br,.string nm]) (.agg #[.int .i64 an,.int .i64 ar,.string vl])) :=
  fun W hW=>hW.update XV W8 ⟨⟨bn,br⟩,nm⟩ _
 have hfd:∀ W,(Instr.field 97 (.agg #[.int .i64 a1,.int .i64 a2,.string x3]) 0).run Tryz.prog W=.ok (.agg #[.int .i64 a1,.int .i64 a2]) W:=fun _=>by kernel_rfl
 go_enter Tryz.func25,Tryz.ntmps25
 go_wp2_with (go_at_call 41;refine (V2 _ _ _).mono ?_;rintro e w' ⟨rfl,hb⟩)
 have hm:Z6 St.val Value.bool w' ma ats:=((h3.alloc _).alloc _).below hb
 have hm2:Z6 Pl.val Wr.val w' mv vs:=((h2.alloc _).alloc _).below hb
 have k0:=Z0 hb (Z1 (Z1 c0 _) _)
 have k1:=Z0 hb (Z1 (Z1 c1 _) _)
 have k2:w'.cell? ⟨w.heap.size,0,none⟩=some (.int .i64 an):=Z0 hb (by go_simp)
 have k3:w'.cell? ⟨w.heap.size,1,none⟩=some (.int .i64 ar):=Z0 hb (by go_simp)
 have k4:w'.cell? ⟨w.heap.size+1,0,none⟩=some (.int .i64 bn):=Z0 hb (by go_simp)
 have k5:w'.cell? ⟨w.heap.size+1,1,none⟩=some (.int .i64 br):=Z0 hb (by go_simp)
 have hx:Ext (fun k=>k=mv∨k=ma) w w':=((((Ext.refl _ _).alloc _).alloc _).then_below hb)
 have z1:=Zj k0
 have z2:=Zj k4
 clear hb
 go_region_held3 (fun W=>W.cell? ⟨r,1,none⟩=some (.map (some ma))∧W.cell? ⟨w.heap.size,0,none⟩=some (.int .i64 an)∧W.cell? ⟨w.heap.size,1,none⟩=some (.int .i64 ar)∧Z6 St.val Value.bool W ma ats) (simp[*,Z6.drew]) (fail)
 go_wp2
 go_region_held3 (fun W=>W.cell? ⟨r,1,none⟩=some (.map (some ma))∧W.cell? ⟨w.heap.size,0,none⟩=some (.int .i64 an)∧W.cell? ⟨w.heap.size,1,none⟩=some (.int .i64 ar)) (simp[*,Z6.drew,ZR]) (fail)
 go_wp2
 have q1:Z6 Pl.val Wr.val (Zp w' ma (Zr ats ⟨an,ar⟩) (.agg #[.int .i64 an,.int .i64 ar]) (.bool true)) mv vs:=hm2.put_other _ _ _ h4
 have q2:Z6 St.val Value.bool (Zp w' ma (Zr ats ⟨an,ar⟩) (.agg #[.int .i64 an,.int .i64 ar]) (.bool true)) ma (Zw ats ⟨an,ar⟩ true):=hm.put ⟨an,ar⟩ true
 have q3:=hx.mapPut (b:=ma) (.inl (.inr rfl)) (Zr ats ⟨an,ar⟩) (.agg #[.int .i64 an,.int .i64 ar]) (.bool true)
 have j0:=(ZR w' ma (Zr ats ⟨an,ar⟩) (.agg #[.int .i64 an,.int .i64 ar]) (.bool true) ⟨r,0,none⟩).trans k0
 have j1:=(ZR w' ma (Zr ats ⟨an,ar⟩) (.agg #[.int .i64 an,.int .i64 ar]) (.bool true) ⟨r,1,none⟩).trans k1
 have j2:=(ZR w' ma (Zr ats ⟨an,ar⟩) (.agg #[.int .i64 an,.int .i64 ar]) (.bool true) ⟨w.heap.size,0,none⟩).trans k2
 have j3:=(ZR w' ma (Zr ats ⟨an,ar⟩) (.agg #[.int .i64 an,.int .i64 ar]) (.bool true) ⟨w.heap.size,1,none⟩).trans k3
 rw[←Wj w' ma (Zr ats ⟨an,ar⟩) (.agg #[.int .i64 an,.int .i64 ar]) (.bool true)]
 clear hm hm2 k0 k1 k2 k3 k4 k5 hx hl hu z1 z2
 generalize Zp w' ma (Zr ats ⟨an,ar⟩) (.agg #[.int .i64 an,.int .i64 ar]) (.bool true)=w2 at *
 have i4:(w2.alloc (.cells #[.int .i64 bn,.int .i64 br,.string nm] 95)).cell? ⟨w2.heap.size,0,none⟩=some (.int .i64 bn):=by go_simp
 have i5:(w2.alloc (.cells #[.int .i64 bn,.int .i64 br,.string nm] 95)).cell? ⟨w2.heap.size,1,none⟩=some (.int .i64 br):=by go_simp
 have i6:(w2.alloc (.cells #[.int .i64 bn,.int .i64 br,.string nm] 95)).cell? ⟨w2.heap.size,2,none⟩=some (.string nm):=by go_simp
 have i0:=Z1 j0 (.cells #[.int .i64 bn,.int .i64 br,.string nm] 95)
 have i1:=Z1 j1 (.cells #[.int .i64 bn,.int .i64 br,.string nm] 95)
 have i2:=Z1 j2 (.cells #[.int .i64 bn,.int .i64 br,.string nm] 95)
 have i3:=Z1 j3 (.cells #[.int .i64 bn,.int .i64 br,.string nm] 95)
 have p1:=q1.alloc (.cells #[.int .i64 bn,.int .i64 br,.string nm] 95)
 have p2:=q2.alloc (.cells #[.int .i64 bn,.int .i64 br,.string nm] 95)
 have p3:=q3.alloc (.cells #[.int .i64 bn,.int .i64 br,.string nm] 95)
 clear j0 j1 j2 j3 q1 q2 q3
 generalize w2.heap.size=N2 at *
 generalize w2.alloc (.cells #[.int .i64 bn,.int .i64 br,.string nm] 95)=w3 at *
 go_region_held3 (fun W=>W.cell? ⟨r,0,none⟩=some (.map (some mv))∧W.cell? ⟨w.heap.size,0,none⟩=some (.int .i64 an)∧W.cell? ⟨w.heap.size,1,none⟩=some (.int .i64 ar)∧W.cell? ⟨N2,0,none⟩=some (.int .i64 bn)∧W.cell? ⟨N2,1,none⟩=some (.int .i64 br)∧W.cell? ⟨N2,2,none⟩=some (.string nm)∧Z6 Pl.val Wr.val W mv vs) (first|exact ⟨i0,i2,i3,i4,i5,i6,p1⟩|exact ⟨Z0 hb4 i0,Z0 hb4 i2,Z0 hb4 i3,Z0 hb4 i4,Z0 hb4 i5,Z0 hb4 i6,p1.below hb4⟩) ((go_at_call 42;refine (VQ _ _ _ _ _).mono ?_;rintro e w4 ⟨rfl,hb4⟩;simp only[Y4,ZU] at hb4))
 go_wp2
 replace i0:=Z0 hb4 i0
 replace i1:=Z0 hb4 i1
 replace i2:=Z0 hb4 i2
 replace i3:=Z0 hb4 i3
 replace i4:=Z0 hb4 i4
 replace i5:=Z0 hb4 i5
 replace i6:=Z0 hb4 i6
 replace p1:=p1.below hb4
 replace p2:=p2.below hb4
 replace p3:=p3.then_below hb4
 clear hb4 hl2 hfd
 go_region_held3 (fun W=>W.cell? ⟨r,0,none⟩=some (.map (some mv))∧W.cell? ⟨w.heap.size,0,none⟩=some (.int .i64 an)∧W.cell? ⟨w.heap.size,1,none⟩=some (.int .i64 ar)∧W.cell? ⟨N2,0,none⟩=some (.int .i64 bn)∧W.cell? ⟨N2,1,none⟩=some (.int .i64 br)∧W.cell? ⟨N2,2,none⟩=some (.string nm)) (first|exact ⟨i0,i2,i3,i4,i5,i6⟩|simp[*,ZR]) (fail)
 go_wp2
 go_ret
 exact ⟨rfl,⟨(ZR _ _ _ _ _ _).trans i0,(ZR _ _ _ _ _ _).trans i1,p1.put ⟨⟨bn,br⟩,nm⟩ ⟨⟨an,ar⟩,vl⟩,p2.put_other _ _ _ (Ne.symm h4),h4⟩,(p3.mapPut (.inl (.inl rfl)) _ _ _).drew⟩
theorem Z3w (r mv ma:Nat) (vs:List (Pl × Wr)) (ats:List (St × Bool)) (an ar bn br:Int) (nm vl:ByteArray) (w:World) (h:Ys w r mv ma vs ats) (hr:Z7 ⟨an,ar⟩=true)
  (ht:(Z3 ats ⟨an,ar⟩).getD false=false) (hc:decide (Yd (W7 (Z3 vs ⟨⟨bn,br⟩,nm⟩)) ⟨an,ar⟩<0)=false) :
  Calls Tryz.prog 25 #[.pointer (some ⟨r,0,none⟩),.agg #[.int .i64 an,.int .i64 ar],.agg #[.int .i64 bn,.int .i64 br],.string nm,.string vl] w
   fun e w'=>e=.returned (.int .i64 0)∧Ys w' r mv ma vs (Zw ats ⟨an,ar⟩ true)∧Ext (fun k=>k=mv∨k=ma) w w':=by
 obtain ⟨c0,c1,h2,h3,h4⟩:=h
 have hl:∀ W,Z6 St.val Value.bool W ma ats→(Instr.lookup 91 (.map (some ma)) (.agg #[.int .i64 an,.int .i64 ar]) false).run Tryz.prog W=.ok (.bool false) W:=fun W hW=>by
  have:=hW.lookup ZN VZ UF ⟨an,ar⟩
  simp only[St.val] at this
  rw[this]
  cases hg:Z3 ats ⟨an,ar⟩ with
  | none=>rfl
  | some x=>rw[hg] at ht;simp at ht;subst ht;rfl
 clear ht
 have hu:∀ W,Z6 St.val Value.bool W ma ats→(Instr.mapUpdate 91 (.map (some ma)) (.agg #[.int .i64 an,.int .i64 ar]) (.bool true)).run Tryz.prog W=.ok () (Zp W ma (Zr ats ⟨an,ar⟩) (.agg #[.int .i64 an,.int .i64 ar]) (.bool true)) :=
  fun W hW=>hW.update ZN VZ ⟨an,ar⟩ (.bool true)
 obtain ⟨a1,a2,hat⟩:∃ a1 a2,W7 (Z3 vs ⟨⟨bn,br⟩,nm⟩)=⟨a1,a2⟩:=⟨_,_,rfl⟩
 rw[hat] at hc
 obtain ⟨x3,hl2⟩:∃ x3,∀ W,Z6 Pl.val Wr.val W mv vs→(Instr.lookup 90 (.map (some mv)) (.agg #[.int .i64 bn,.int .i64 br,.string nm]) false).run Tryz.prog W=.ok (.agg #[.int .i64 a1,.int .i64 a2,.string x3]) W:=by
  cases hg:Z3 vs ⟨⟨bn,br⟩,nm⟩ with
  | none =>
   rw[hg] at hat
   cases hat
   refine ⟨⟨#[]⟩,fun W hW=>?_⟩
   have:=hW.lookup XV W8 Xm ⟨⟨bn,br⟩,nm⟩
   rw[hg] at this
   exact this
  | some x =>
   rw[hg] at hat
   obtain ⟨⟨y1,y2⟩,y3⟩:=x
   cases hat
   refine ⟨y3,fun W hW=>?_⟩
   have:=hW.lookup XV W8 Xm ⟨⟨bn,br⟩,nm⟩
   rw[hg] at this
   exact this
 clear hat
 have hfd:∀ W,(Instr.field 97 (.agg #[.int .i64 a1,.int .i64 a2,.string x3]) 0).run Tryz.prog W=.ok (.agg #[.int .i64 a1,.int .i64 a2]) W:=fun _=>by kernel_rfl
 go_enter Tryz.func25,Tryz.ntmps25
 go_wp2_with (go_at_call 41;refine (V2 _ _ _).mono ?_;rintro e w' ⟨rfl,hb⟩)
 have hm:Z6 St.val Value.bool w' ma ats:=((h3.alloc _).alloc _).below hb
 have hm2:Z6 Pl.val Wr.val w' mv vs:=((h2.alloc _).alloc _).below hb
 have k0:=Z0 hb (Z1 (Z1 c0 _) _)
 have k1:=Z0 hb (Z1 (Z1 c1 _) _)
 have k2:w'.cell? ⟨w.heap.size,0,none⟩=some (.int .i64 an):=Z0 hb (by go_simp)
 have k3:w'.cell? ⟨w.heap.size,1,none⟩=some (.int .i64 ar):=Z0 hb (by go_simp)
 have k4:w'.cell? ⟨w.heap.size+1,0,none⟩=some (.int .i64 bn):=Z0 hb (by go_simp)
 have k5:w'.cell? ⟨w.heap.size+1,1,none⟩=some (.int .i64 br):=Z0 hb (by go_simp)
 have hx:Ext (fun k=>k=mv∨k=ma) w w':=((((Ext.refl _ _).alloc _).alloc _).then_below hb)
 have z1:=Zj k0
 have z2:=Zj k4
 clear hb
 go_region_held3 (fun W=>W.cell? ⟨r,1,none⟩=some (.map (some ma))∧W.cell? ⟨w.heap.size,0,none⟩=some (.int .i64 an)∧W.cell? ⟨w.heap.size,1,none⟩=some (.int .i64 ar)∧Z6 St.val Value.bool W ma ats) (simp[*,Z6.drew]) (fail)
 go_wp2
 go_region_held3 (fun W=>W.cell? ⟨r,1,none⟩=some (.map (some ma))∧W.cell? ⟨w.heap.size,0,none⟩=some (.int .i64 an)∧W.cell? ⟨w.heap.size,1,none⟩=some (.int .i64 ar)) (simp[*,Z6.drew,ZR]) (fail)
 go_wp2
 have q1:Z6 Pl.val Wr.val (Zp w' ma (Zr ats ⟨an,ar⟩) (.agg #[.int .i64 an,.int .i64 ar]) (.bool true)) mv vs:=hm2.put_other _ _ _ h4
 have q2:Z6 St.val Value.bool (Zp w' ma (Zr ats ⟨an,ar⟩) (.agg #[.int .i64 an,.int .i64 ar]) (.bool true)) ma (Zw ats ⟨an,ar⟩ true):=hm.put ⟨an,ar⟩ true
 have q3:=hx.mapPut (b:=ma) (.inl (.inr rfl)) (Zr ats ⟨an,ar⟩) (.agg #[.int .i64 an,.int .i64 ar]) (.bool true)
 have j0:=(ZR w' ma (Zr ats ⟨an,ar⟩) (.agg #[.int .i64 an,.int .i64 ar]) (.bool true) ⟨r,0,none⟩).trans k0
 have j1:=(ZR w' ma (Zr ats ⟨an,ar⟩) (.agg #[.int .i64 an,.int .i64 ar]) (.bool true) ⟨r,1,none⟩).trans k1
 have j2:=(ZR w' ma (Zr ats ⟨an,ar⟩) (.agg #[.int .i64 an,.int .i64 ar]) (.bool true) ⟨w.heap.size,0,none⟩).trans k2
 have j3:=(ZR w' ma (Zr ats ⟨an,ar⟩) (.agg #[.int .i64 an,.int .i64 ar]) (.bool true) ⟨w.heap.size,1,none⟩).trans k3
 rw[←Wj w' ma (Zr ats ⟨an,ar⟩) (.agg #[.int .i64 an,.int .i64 ar]) (.bool true)]
 clear hm hm2 k0 k1 k2 k3 k4 k5 hx hl hu z1 z2
 generalize Zp w' ma (Zr ats ⟨an,ar⟩) (.agg #[.int .i64 an,.int .i64 ar]) (.bool true)=w2 at *
 have i4:(w2.alloc (.cells #[.int .i64 bn,.int .i64 br,.string nm] 95)).cell? ⟨w2.heap.size,0,none⟩=some (.int .i64 bn):=by go_simp
 have i5:(w2.alloc (.cells #[.int .i64 bn,.int .i64 br,.string nm] 95)).cell? ⟨w2.heap.size,1,none⟩=some (.int .i64 br):=by go_simp
 have i6:(w2.alloc (.cells #[.int .i64 bn,.int .i64 br,.string nm] 95)).cell? ⟨w2.heap.size,2,none⟩=some (.string nm):=by go_simp
 have i0:=Z1 j0 (.cells #[.int .i64 bn,.int .i64 br,.string nm] 95)
 have i1:=Z1 j1 (.cells #[.int .i64 bn,.int .i64 br,.string nm] 95)
 have i2:=Z1 j2 (.cells #[.int .i64 bn,.int .i64 br,.string nm] 95)
 have i3:=Z1 j3 (.cells #[.int .i64 bn,.int .i64 br,.string nm] 95)
 have p1:=q1.alloc (.cells #[.int .i64 bn,.int .i64 br,.string nm] 95)
 have p2:=q2.alloc (.cells #[.int .i64 bn,.int .i64 br,.string nm] 95)
 have p3:=q3.alloc (.cells #[.int .i64 bn,.int .i64 br,.string nm] 95)
 clear j0 j1 j2 j3 q1 q2 q3
 generalize w2.heap.size=N2 at *
 generalize w2.alloc (.cells #[.int .i64 bn,.int .i64 br,.string nm] 95)=w3 at *
 go_region_held3 (fun W=>W.cell? ⟨r,0,none⟩=some (.map (some mv))∧W.cell? ⟨w.heap.size,0,none⟩=some (.int .i64 an)∧W.cell? ⟨w.heap.size,1,none⟩=some (.int .i64 ar)∧W.cell? ⟨N2,0,none⟩=some (.int .i64 bn)∧W.cell? ⟨N2,1,none⟩=some (.int .i64 br)∧W.cell? ⟨N2,2,none⟩=some (.string nm)∧Z6 Pl.val Wr.val W mv vs) (first|exact ⟨i0,i2,i3,i4,i5,i6,p1⟩|exact ⟨Z0 hb4 i0,Z0 hb4 i2,Z0 hb4 i3,Z0 hb4 i4,Z0 hb4 i5,Z0 hb4 i6,p1.below hb4⟩) ((go_at_call 42;refine (VQ _ _ _ _ _).mono ?_;rintro e w4 ⟨rfl,hb4⟩;simp only[Y4,ZU] at hb4))
 go_wp2
 go_ret
 exact ⟨rfl,⟨Z0 hb4 i0,Z0 hb4 i1,p1.below hb4,p2.below hb4,h4⟩,p3.then_below hb4⟩
def Yi (ats:List (St × Bool)) (a:St):Int:=if Z7 a=false then 1 else if (Z3 ats a).getD false=true then 151 else 0
def Wk (ats:List (St × Bool)) (a:St):List (St × Bool):=if Yi ats a=0 then Zw ats a true else ats
def YI (vs:List (Pl × Wr)) (ats:List (St × Bool)) (a:St) (p:Pl) (v:ByteArray):List (Pl × Wr) :=
 if Yi ats a=0∧Yd (W7 (Z3 vs p)) a<0 then Zw vs p ⟨a,v⟩ else vs
theorem Ys.below {w w':World} {r mv ma:Nat} {vs:List (Pl × Wr)} {ats:List (St × Bool)} (h:Ys w r mv ma vs ats) (hb:Below w.heap.size w w'):Ys w' r mv ma vs ats :=
 ⟨Z0 hb h.c0,Z0 hb h.c1,h.hv.below hb,h.ha.below hb,h.ne⟩
theorem Ys.ext {w w':World} {r mv ma:Nat} {vs:List (Pl × Wr)} {ats:List (St × Bool)} (h:Ys w r mv ma vs ats) {S:Nat→Prop} (hb:Ext S w w') (h1:¬ S r) (h2:¬ S mv) (h3:¬ S ma):Ys w' r mv ma vs ats :=
 ⟨hb.keep h.c0 h1,hb.keep h.c1 h1,h.hv.ext hb h2,h.ha.ext hb h3,h.ne⟩
theorem QH (r mv ma:Nat) (vs:List (Pl × Wr)) (ats:List (St × Bool)) (an ar bn br:Int) (nm vl:ByteArray) (w:World) (h:Ys w r mv ma vs ats) :
  Calls Tryz.prog 25 #[.pointer (some ⟨r,0,none⟩),.agg #[.int .i64 an,.int .i64 ar],.agg #[.int .i64 bn,.int .i64 br],.string nm,.string vl] w
   fun e w'=>e=.returned (.int .i64 (Yi ats ⟨an,ar⟩))∧Ys w' r mv ma (YI vs ats ⟨an,ar⟩ ⟨⟨bn,br⟩,nm⟩ vl) (Wk ats ⟨an,ar⟩)∧Ext (fun k=>k=mv∨k=ma) w w':=by
 by_cases hr:Z7 ⟨an,ar⟩=true
 ·by_cases ht:(Z3 ats ⟨an,ar⟩).getD false=true
  ·have e1:Yi ats ⟨an,ar⟩=151:=by simp[Yi,hr,ht]
   rw[YI,Wk,e1,if_neg (by simp),if_neg (by simp)]
   exact (Z21 r mv ma vs ats an ar bn br nm vl w h hr ht).mono fun e w' ⟨he,hb⟩=>⟨he,h.below hb,Ext.of_below hb⟩
  ·have ht':(Z3 ats ⟨an,ar⟩).getD false=false:=by simpa using ht
   have e1:Yi ats ⟨an,ar⟩=0:=by simp[Yi,hr,ht']
   rw[YI,Wk,e1,if_pos rfl]
   by_cases hc:Yd (W7 (Z3 vs ⟨⟨bn,br⟩,nm⟩)) ⟨an,ar⟩<0
   ·rw[if_pos ⟨rfl,hc⟩]
    exact Z2I r mv ma vs ats an ar bn br nm vl w h hr ht' hc
   ·rw[if_neg (fun x=>hc x.2)]
    exact Z3w r mv ma vs ats an ar bn br nm vl w h hr ht' (by simpa using hc)
 ·have hr':Z7 ⟨an,ar⟩=false:=by simpa using hr
  have e1:Yi ats ⟨an,ar⟩=1:=by simp[Yi,hr']
  rw[YI,Wk,e1,if_neg (by simp),if_neg (by simp)]
  exact (Z3A r mv ma vs ats an ar bn br nm vl w h hr').mono fun e w' ⟨he,hb⟩=>⟨he,h.below hb,Ext.of_below hb⟩
theorem Z2V (bn br:Int) (w:World) :
  Calls Tryz.prog 44 #[.pointer none,.agg #[.int .i64 bn,.int .i64 br]] w
   fun e w'=>e=.returned (.slice none 0 0)∧Below w.heap.size w w':=by
 go_enter Tryz.func44,Tryz.ntmps44
 go_wp2_with fail
 go_ret
 exact ⟨rfl,(Below.refl _ _).alloc (Nat.le_refl _) _⟩
def Vi (x:Option Wr):ByteArray:=match x with|some y=>y.value|none=>⟨#[]⟩
theorem Z3o (r mv ma:Nat) (vs:List (Pl × Wr)) (ats:List (St × Bool)) (bn br:Int) (nm:ByteArray) (w:World) (h:Ys w r mv ma vs ats) :
  Calls Tryz.prog 43 #[.pointer (some ⟨r,0,none⟩),.agg #[.int .i64 bn,.int .i64 br],.string nm] w
   fun e w'=>e=.returned (.tuple #[.string (Vi (Z3 vs ⟨⟨bn,br⟩,nm⟩)),.bool (Z3 vs ⟨⟨bn,br⟩,nm⟩).isSome])∧Below w.heap.size w w':=by
 obtain ⟨c0,c1,h2,h3,h4⟩:=h
 obtain ⟨a1,a2,a3,x,hl2,e3,e4⟩:∃ a1 a2 a3 x,(∀ W,Z6 Pl.val Wr.val W mv vs→(Instr.lookup 90 (.map (some mv)) (.agg #[.int .i64 bn,.int .i64 br,.string nm]) true).run Tryz.prog W=.ok (.tuple #[.agg #[.int .i64 a1,.int .i64 a2,.string a3],.bool x]) W)∧Vi (Z3 vs ⟨⟨bn,br⟩,nm⟩)=a3∧(Z3 vs ⟨⟨bn,br⟩,nm⟩).isSome=x:=by
  cases hg:Z3 vs ⟨⟨bn,br⟩,nm⟩ with
  | none =>
   refine ⟨0,0,⟨#[]⟩,false,fun W hW=>?_,rfl,rfl⟩
   have:=hW.lookupOk XV W8 Xm ⟨⟨bn,br⟩,nm⟩
   rw[hg] at this
   exact this
  | some y =>
   obtain ⟨⟨y1,y2⟩,y3⟩:=y
   refine ⟨y1,y2,y3,true,fun W hW=>?_,rfl,rfl⟩
   have:=hW.lookupOk XV W8 Xm ⟨⟨bn,br⟩,nm⟩
   rw[hg] at this
   exact this
 rw[e3,e4]
 clear e3 e4
 go_enter Tryz.func43,Tryz.ntmps43
 go_wp2_with fail
 have z:=Zj c0
 have j0:=Z1 c0 (.cells #[.int .i64 bn,.int .i64 br] 23)
 have p1:=h2.alloc (.cells #[.int .i64 bn,.int .i64 br] 23)
 have i4:(w.alloc (.cells #[.int .i64 bn,.int .i64 br] 23)).cell? ⟨w.heap.size,0,none⟩=some (.int .i64 bn):=by go_simp
 have i5:(w.alloc (.cells #[.int .i64 bn,.int .i64 br] 23)).cell? ⟨w.heap.size,1,none⟩=some (.int .i64 br):=by go_simp
 have hb:Below w.heap.size w (w.alloc (.cells #[.int .i64 bn,.int .i64 br] 23)):=(Below.refl _ _).alloc (Nat.le_refl _) _
 have hz:w.heap.size<(w.alloc (.cells #[.int .i64 bn,.int .i64 br] 23)).heap.size:=by simp
 clear c0 c1 h2 h3
 generalize w.alloc (.cells #[.int .i64 bn,.int .i64 br] 23)=w1 at *
 go_region_held3 (fun W=>W.cell? ⟨r,0,none⟩=some (.map (some mv))∧W.cell? ⟨w.heap.size,0,none⟩=some (.int .i64 bn)∧W.cell? ⟨w.heap.size,1,none⟩=some (.int .i64 br)∧Z6 Pl.val Wr.val W mv vs) (first|exact ⟨j0,i4,i5,p1⟩|exact ⟨Z1 j0 _,Z1 i4 _,Z1 i5 _,p1.alloc _⟩|(simp[*,World.cell?_alloc_some,World.cell?_setCell_far])) (fail)
 all_goals go_wp2
 all_goals go_ret2
 all_goals exact ⟨rfl,(hb.alloc (by omega) _).drew⟩
end Go.Proofs.YtlgipkemoldckaaGreatDoor
namespace Go.Proofs.YtlgipkemoldckaaGreatDoor
open Go.RowKit Go.Sort Go.Shelf
structure Atr where
 name:ByteArray
 value:ByteArray
 deriving DecidableEq
instance:Inhabited Atr:=⟨⟨⟨#[]⟩,⟨#[]⟩⟩⟩
def Atr.cells (x:Atr):List Value:=[.string x.name,.string x.value]
theorem Tx:SWO (ltOf fun x y:Atr=>Yv x.name y.name) where
 irrefl x:=by simp only[ltOf,ltB];simp[List.lt_irrefl]
 trans x y z h1 h2:=by simp only[ltOf,ltB,decide_eq_true_eq] at *;exact List.lt_trans h1 h2
 ntrans x y z h1 h2:=by
  simp only[ltOf,ltB,decide_eq_false_iff_not] at *
  intro h
  exact (List.le_trans h2 h1) h
theorem Z2M (x y:Atr) (w:World) :
  Calls Tryz.prog 61 #[.agg x.cells.toArray,.agg y.cells.toArray] w fun e w'=>e=.returned (.int .i64 (Yv x.name y.name))∧∃ q os',w'=grow (w.drewN q) os':=by
 unfold Atr.cells
 go_enter Tryz.func61,Tryz.ntmps61
 go_wp2_with (go_at_call 62;refine (Ue _ _ _).mono ?_;rintro e w' ⟨rfl,rfl⟩)
 go_ret
 exact ⟨rfl,0,_,by rw[alloc_eq_grow,alloc_eq_grow,grow_grow];rfl⟩
theorem Rc {base:Nat} {w:World} {v:Value} {l:List Atr} (h:Own Atr.cells 2 73 base w v l) (hl:l.length<4611686018427387904) :
  Calls Tryz.prog 60 #[v,.func (.func 61) #[] #[]] w fun e w'=>e=.returned (.tuple #[])∧∃ l',l'.Perm l∧l'.Pairwise (fun a b=>ltOf (fun x y:Atr=>Yv x.name y.name) b a=false)∧Own Atr.cells 2 73 base w' v l'∧Ext (fun b=>v.ownBlock=some b) w w':=by
 have eg:∀ args w,(callFunc 61 args).run Tryz.prog w=.ok (.enter 61 args) w:=enters_of Tryz.func61 (by kernel_rfl) rfl
 refine Tz (fun _=>rfl) (by omega) (fun blk cap d w hH hb hs=>?_) (fun p cap w=>?_) h hl
 ·exact AnyQ.slices_SortFunc Tryz.sortAttr 2 Tryz.isAgg73 Tryz.sizeOf73 Atr.cells (fun _=>rfl) (fun x v hv=>by simp[Atr.cells] at hv;rcases hv with rfl|rfl <;> rfl) (fun x y=>Yv x.name y.name) Tx 61 #[] blk 0 cap d w eg (fun _ _ _ _ x y=>Z2M x y _) hH hb hs
 ·exact AnyF.slices_SortFunc_none Tryz.sortAttr p cap _ w
def ZM (vs:List (Pl × Wr)) (b:St):List Atr:=(vs.filter (fun p=>decide (p.1.blk=b))).map (fun p=>⟨p.1.name,p.2.value⟩)
theorem U1 (a b:List (Pl × Wr)) (s:St):ZM (a++b) s=ZM a s++ZM b s:=by simp[ZM]
theorem Qa {a b:List (Pl × Wr)} (h:a.Perm b) (s:St):(ZM a s).Perm (ZM b s):=(h.filter _).map _
theorem Vj (a:List (Pl × Wr)) (s:St):(ZM a s).length≤a.length:=by simp only[ZM,List.length_map];exact List.length_filter_le _ _
theorem W5:(Tryz.prog.info? 73).map (fun i=>(i.zero,i.size,i.bytes))=some (some (.agg #[.string ⟨#[]⟩,.string ⟨#[]⟩]),2,32):=by kernel_rfl
def Z3v (w:World) (B it mv:Nat) (vs:List (Pl × Wr)) (bn br:Int) (k:Nat) (v:Value) (wr:World):Prop :=
 ∃ left dn cur,(dn++left).Perm vs∧k=left.length∧ZL Pl.val Wr.val wr it mv vs left cur∧Own Atr.cells 2 73 B wr v (ZM dn ⟨bn,br⟩) ∧
  wr.cell? ⟨w.heap.size,0,none⟩=some (.int .i64 bn)∧wr.cell? ⟨w.heap.size,1,none⟩=some (.int .i64 br)∧Below w.heap.size w wr∧B≤wr.heap.size
theorem RF (r mv ma:Nat) (vs:List (Pl × Wr)) (ats:List (St × Bool)) (bn br:Int) (w:World) (h:Ys w r mv ma vs ats) (hsz:vs.length≤1099511627776) :
  Calls Tryz.prog 44 #[.pointer (some ⟨r,0,none⟩),.agg #[.int .i64 bn,.int .i64 br]] w
   fun e w'=>∃ v l,e=.returned v∧Own Atr.cells 2 73 w.heap.size w' v l∧l.Perm (ZM vs ⟨bn,br⟩)∧l.Pairwise (fun a b=>ltOf (fun x y:Atr=>Yv x.name y.name) b a=false)∧Below w.heap.size w w':=by
 obtain ⟨c0,c1,h2,h3,h4⟩:=h
 have d0:=Z1 c0 (.cells #[.int .i64 bn,.int .i64 br] 23)
 obtain ⟨w1,hrange,hit,hb1,hz1⟩:=(h2.alloc (.cells #[.int .i64 bn,.int .i64 br] 23)).range (P:=Tryz.prog) W8
 have e1:(w.alloc (.cells #[.int .i64 bn,.int .i64 br] 23)).heap.size=w.heap.size+1:=by simp
 rw[e1] at hrange hit hz1
 have hmlt:mv<w.heap.size:=h2.lt
 obtain ⟨i0,hi,hz0,hz1',hz2⟩:=info_parts W5
 have k0:w1.cell? ⟨w.heap.size,0,none⟩=some (.int .i64 bn):=Z0 hb1 (by go_simp)
 have k1:w1.cell? ⟨w.heap.size,1,none⟩=some (.int .i64 br):=Z0 hb1 (by go_simp)
 have hB1:Below w.heap.size w w1:=((Below.refl _ _).alloc (Nat.le_refl _) _).trans (hb1.mono (by simp))
 have HZ:=Lib.hid hz1
 clear c0 c1 h2 h3 h4 hz1 hb1
 go_enter Tryz.func44,Tryz.ntmps44
 go_wp2_with fail
 go_loopg [5] vs.length (fun k v wr=>Z3v w (w.heap.size+2) (w.heap.size+1) mv vs bn br k v wr)
 case atStart=>exact ⟨vs,[],none,List.Perm.refl _,rfl,hit,Own.nil,k0,k1,hB1,by rw[HZ.out];exact Nat.le_refl _⟩
 case round =>
  obtain ⟨left,dn,cur,hperm,hk,hiter,hown,q0,q1,hB,hBs⟩:=hrel
  clear hit k0 k1 hB1 hrange d0 e1
  rcases hiter.next (P:=Tryz.prog) (by omega) with ⟨hnil,hnx⟩|⟨i,p,w2,hip,hnx,hiter2,hx2,hs2⟩
  ·have HK:=Lib.hid hk
   have HN:=Lib.hid hnil
   clear hk hnil
   go_wp2_with fail
   refine (Rc hown (by have:=Vj dn ⟨bn,br⟩;have:=hperm.length_eq;simp at this;omega)).mono ?_
   rintro e w3 ⟨rfl,l',hl1,hl2,hl3,hx3⟩
   have hb3:Below w.heap.size w w3:=⟨hx3.os.trans hB.os,hx3.tape.trans hB.tape,hx3.output.trans hB.output,Nat.le_trans hB.size hx3.size,fun j hj=>(hx3.block j (Nat.lt_of_lt_of_le hj hB.size) (fun e=>by have:=(hown.blk j e).1;omega)).trans (hB.block j hj)⟩
   have hp3:l'.Perm (ZM vs ⟨bn,br⟩):=by
    rw[HN.out,List.append_nil] at hperm
    exact hl1.trans (Qa hperm _)
   have X:Hid (∃ v l,Ending.returned u5=.returned v∧Own Atr.cells 2 73 w.heap.size w3 v l∧l.Perm (ZM vs ⟨bn,br⟩)∧l.Pairwise (fun a b=>ltOf (fun x y:Atr=>Yv x.name y.name) b a=false)∧Below w.heap.size w w3):=⟨_,l',rfl,hl3.mono (by omega),hp3,hl2,hb3⟩
   clear hp3 hb3 hl1 hl2 hl3 hx3 hown hperm hnx hiter
   go_wp2_with fail
   go_ret
   exact X.out
  ·obtain ⟨⟨⟨pn,pr⟩,pname⟩,⟨⟨xn,xr⟩,xval⟩⟩:=p
   simp only[Pl.val,Wr.val] at hnx
   have hen:∀ W,ZL Pl.val Wr.val W (w.heap.size+1) mv vs (left.eraseIdx i) (some (⟨⟨pn,pr⟩,pname⟩,⟨⟨xn,xr⟩,xval⟩))→(Instr.entry (.pointer (some ⟨w.heap.size+1,0,none⟩))).run Tryz.prog W=.ok (.tuple #[.agg #[.int .i64 pn,.int .i64 pr,.string pname],.agg #[.int .i64 xn,.int .i64 xr,.string xval]]) W:=fun W hW=>hW.entry
   have HK:=Lib.hid hk
   have HS:=Lib.hid hs2
   have HI:=Lib.hid hip
   clear hk hs2 hip
   replace q0:=hx2.keep q0 (by omega)
   replace q1:=hx2.keep q1 (by omega)
   have z0:=Zj q0
   have hown2:=hown.ext hx2 (fun b hb e=>by have:=(hown.blk b hb).1;omega)
   have hB2:Below w.heap.size w w2:=⟨hx2.os.trans hB.os,hx2.tape.trans hB.tape,hx2.output.trans hB.output,Nat.le_trans hB.size hx2.size,fun j hj=>(hx2.block j (Nat.lt_of_lt_of_le hj hB.size) (by omega)).trans (hB.block j hj)⟩
   have hs2:w.heap.size+2≤w2.heap.size:=by rw[HS.out];exact hBs
   have hlen:=Vj dn ⟨bn,br⟩
   have hlen2:=hperm.length_eq
   rw[List.length_append] at hlen2
   have hlen3:(ZM dn ⟨bn,br⟩).length≤1099511627776:=by omega
   have hper2:((dn++[((⟨⟨pn,pr⟩,pname⟩,⟨⟨xn,xr⟩,xval⟩):Pl × Wr)])++left.eraseIdx i).Perm vs:=by
    rw[List.append_assoc]
    exact (List.Perm.append_left dn (WO HI.out).symm).trans hperm
   have hk2:(left.eraseIdx i).length<gk:=by
    rw[HK.out,List.length_eraseIdx]
    have:=(List.getElem?_eq_some_iff.1 HI.out).1
    rw[if_pos this];omega
   have HP:=Lib.hid hper2
   clear hlen hlen2 hperm hper2 hown hB hiter hx2 hBs
   by_cases hb:pn=bn∧pr=br
   ·obtain ⟨rfl,rfl⟩:=hb
    have ha:ZM (dn++[(⟨⟨pn,pr⟩,pname⟩,⟨⟨xn,xr⟩,xval⟩)]) ⟨pn,pr⟩=ZM dn ⟨pn,pr⟩++[⟨pname,xval⟩]:=by rw[U1];simp[ZM]
    have HA:=Lib.hid ha
    clear ha
    go_wp2_with (at_builtin;refine Zq rfl _ _ _ rfl i0 (.agg #[.string ⟨#[]⟩,.string ⟨#[]⟩]) 32 Tryz.underlying24 hi hz0 hz1' hz2 rfl (by omega) (fun _=>rfl) (fun x u hu=>by simp[Atr.cells] at hu;rcases hu with rfl|rfl <;> rfl) rfl (((hown2.alloc _).alloc _).alloc _) ⟨pname,xval⟩ (w2.heap.size+2) 1 rfl ?_ (by unfold maxLen;omega) (by omega) (by simp;omega) ?_)
    ·intro j u hj
     have hju:(j=0∧u=.string pname)∨(j=1∧u=.string xval):=by
      match j,hj with
      | 0,hj=>simp[Atr.cells] at hj;exact .inl ⟨rfl,hj.symm⟩
      | 1,hj=>simp[Atr.cells] at hj;exact .inr ⟨rfl,hj.symm⟩
      | n+2,hj=>simp[Atr.cells] at hj
     rcases hju with ⟨rfl,rfl⟩|⟨rfl,rfl⟩ <;> go_simp
    ·intro v' w3 hown3 hx3
     go_wp2_with fail
     go_roundg (left.eraseIdx i).length
     case measure=>exact hk2
     case rel =>
      have hne:∀ b,u5.ownBlock=some b→w.heap.size+2≤b:=fun b hb=>(hown2.blk b hb).1
      refine ⟨left.eraseIdx i,_,_,HP.out,rfl,(((hiter2.alloc _).alloc _).alloc _).ext hx3 (fun e=>by have:=hne _ e;omega) (fun e=>by have:=hne _ e;omega),by rw[HA.out];exact hown3,hx3.keep (Z1 (Z1 (Z1 q0 _) _) _) (fun e=>by have:=hne _ e;omega),hx3.keep (Z1 (Z1 (Z1 q1 _) _) _) (fun e=>by have:=hne _ e;omega),?_,?_⟩
      ·exact Ext.new ((((hB2.alloc (by omega) _).alloc (by simp;omega) _).alloc (by simp;omega) _)) hx3 (fun b hb _ e=>by have:=hne _ e;omega) (by simp;omega)
      ·have:=hx3.size;simp at this;omega
   ·have ha:ZM (dn++[((⟨⟨pn,pr⟩,pname⟩,⟨⟨xn,xr⟩,xval⟩):Pl × Wr)]) ⟨bn,br⟩=ZM dn ⟨bn,br⟩:=by
     rw[U1]
     simp only[ZM,List.append_right_eq_self,List.map_eq_nil_iff]
     rw[List.filter_eq_nil_iff]
     intro x hx
     rw[List.mem_singleton.1 hx]
     simp only[decide_eq_true_eq,St.mk.injEq]
     exact hb
    have HA:=Lib.hid ha
    clear ha
    by_cases hb1:pn=bn
    ·have hb2:¬ pr=br:=fun e=>hb ⟨hb1,e⟩
     subst hb1
     clear hb
     go_wp2_with fail
     go_roundg (left.eraseIdx i).length
     case measure=>exact hk2
     case rel=>exact ⟨left.eraseIdx i,_,_,HP.out,rfl,(hiter2.alloc _).alloc _,by rw[HA.out];exact (hown2.alloc _).alloc _,Z1 (Z1 q0 _) _,Z1 (Z1 q1 _) _,(hB2.alloc (by omega) _).alloc (by simp;omega) _,by simp;omega⟩
    ·clear hb
     go_wp2_with fail
     go_roundg (left.eraseIdx i).length
     case measure=>exact hk2
     case rel=>exact ⟨left.eraseIdx i,_,_,HP.out,rfl,(hiter2.alloc _).alloc _,by rw[HA.out];exact (hown2.alloc _).alloc _,Z1 (Z1 q0 _) _,Z1 (Z1 q1 _) _,(hB2.alloc (by omega) _).alloc (by simp;omega) _,by simp;omega⟩
end Go.Proofs.YtlgipkemoldckaaGreatDoor
namespace Go.Proofs.YtlgipkemoldckaaGreatDoor
open Go.ChangeShapes Go.WideShapes Go.RowKit Go.Deep
structure Z8 where
 at_:St
 blk:St
 name:ByteArray
 value:ByteArray
 deriving DecidableEq
def Z8.cells (x:Z8):List Value:=[.int .i64 x.at_.n,.int .i64 x.at_.r,.int .i64 x.blk.n,.int .i64 x.blk.r,.string x.name,.string x.value]
section
variable {H:Type} {enc:TypeId × Value→H} {w:World} {base:Nat} {spare:Nat→Bool} {held:Bool}
theorem Z01 {fuel:Nat} {cs:List Value} {x:DataW H × List MemPlace} (h:DataW.trod enc Tryz.prog w base spare held fuel 58 cs=some x):∃ y:Z8,cs=y.cells:=by
 obtain ⟨xs,n,_,_,hlen,hxl,hf⟩:=DataW.trod_struct Tryz.underlying58 h
 have hc:Tryz.prog.cellsOf 58=6:=by kernel_rfl
 have hc1:Tryz.prog.cellsOf 23=2:=by kernel_rfl
 have hc2:Tryz.prog.cellsOf 9=1:=by kernel_rfl
 rw[hc] at hlen
 match cs,hlen with
 | [a,b,c,d,e,f],_ =>
  have f0:DataW.trod enc Tryz.prog w base spare held n 23 [a,b]=xs[0]?:=by simpa [hc1] using hf 0 _ rfl
  have f1:DataW.trod enc Tryz.prog w base spare held n 23 [c,d]=xs[1]?:=by simpa [hc1] using hf 1 _ rfl
  have f2:DataW.trod enc Tryz.prog w base spare held n 9 [e]=xs[2]?:=by simpa [hc2] using hf 2 _ rfl
  have f3:DataW.trod enc Tryz.prog w base spare held n 9 [f]=xs[3]?:=by simpa [hc2] using hf 3 _ rfl
  simp at hxl
  obtain ⟨s,hs⟩:=YK (f0.trans (List.getElem?_eq_getElem (by omega)))
  obtain ⟨u,hu⟩:=YK (f1.trans (List.getElem?_eq_getElem (by omega)))
  obtain ⟨p,hp,_⟩:=DataW.trod_string Tryz.underlying9 (f2.trans (List.getElem?_eq_getElem (by omega)))
  obtain ⟨q,hq,_⟩:=DataW.trod_string Tryz.underlying9 (f3.trans (List.getElem?_eq_getElem (by omega)))
  simp at hs hu hp hq
  exact ⟨⟨s,u,p,q⟩,by simp[Z8.cells,hs,hu,hp,hq]⟩
end
end Go.Proofs.YtlgipkemoldckaaGreatDoor
namespace Go.Proofs.YtlgipkemoldckaaGreatDoor
open Go.RowKit
def Z8.pl (x:Z8):Pl:=⟨x.blk,x.name⟩
def Wc (s:List (Pl × Wr) × List (St × Bool)) (x:Z8):List (Pl × Wr) × List (St × Bool):=(YI s.1 s.2 x.at_ x.pl x.value,Wk s.2 x.at_)
def Zg (ws:List Z8):List (Pl × Wr) × List (St × Bool):=ws.foldl Wc ([],[])
theorem S1:Zg []=([],[]):=rfl
theorem XD (ws:List Z8) (x:Z8):Zg (ws++[x])=Wc (Zg ws) x:=by simp[Zg]
def Ws (ws:List Z8) (p:Pl) (x:Wr):Prop :=
 ∃ y∈ws,Z7 y.at_=true∧y.pl=p∧x=⟨y.at_,y.value⟩∧∀ z∈ws,Z7 z.at_=true→z.pl=p→¬ ZK y.at_ z.at_
def Z14 (ws:List Z8):Prop:=∀ y∈ws,∀ z∈ws,y.at_=z.at_→y=z
theorem Ws.mem {ws ws':List Z8} (hm:∀ x,x∈ws↔x∈ws') {p:Pl} {x:Wr} (h:Ws ws p x):Ws ws' p x:=by
 obtain ⟨y,hy,ry,py,e,my⟩:=h
 exact ⟨y,(hm y).1 hy,ry,py,e,fun z hz=>my z ((hm z).2 hz)⟩
theorem Qo (ws:List Z8) (p:Pl):∀ z∈ws,Z7 z.at_=true→z.pl=p→∃ x,Ws ws p x:=by
 induction ws with
 | nil=>intro z hz;cases hz
 | cons y ws ihw =>
  intro z hz rz pz
  by_cases hex:∃ x,Ws ws p x
  ·obtain ⟨x,u,hu,ru,pu,ex,mu⟩:=hex
   by_cases hy:Z7 y.at_=true∧y.pl=p∧ZK u.at_ y.at_
   ·refine ⟨_,y,by simp,hy.1,hy.2.1,rfl,fun v hv rv pv hlt=>?_⟩
    rcases List.mem_cons.1 hv with rfl|hv
    ·exact Zm _ hlt
    ·exact mu v hv rv pv (ZC hy.2.2 hlt)
   ·refine ⟨_,u,by simp[hu],ru,pu,rfl,fun v hv rv pv hlt=>?_⟩
    rcases List.mem_cons.1 hv with rfl|hv
    ·exact hy ⟨rv,pv,hlt⟩
    ·exact mu v hv rv pv hlt
  ·rcases List.mem_cons.1 hz with rfl|hz
   ·refine ⟨_,z,by simp,rz,pz,rfl,fun v hv rv pv hlt=>?_⟩
    rcases List.mem_cons.1 hv with rfl|hv
    ·exact Zm _ hlt
    ·exact hex (ihw v hv rv pv)
   ·exact absurd (ihw z hz rz pz) hex
structure Z1l (ws:List Z8) (s:List (Pl × Wr) × List (St × Bool)):Prop where
 ats:∀ a,(Z3 s.2 a).getD false=true↔∃ y∈ws,Z7 y.at_=true∧y.at_=a
 vals:∀ p x,Z3 s.1 p=some x↔Ws ws p x
theorem WB {α:Type} {p:List α→Prop} (h0:p []) (h1:∀ l x,p l→p (l++[x])):∀ l,p l:=fun l=>by
 have h2:∀ r:List α,p r.reverse:=fun r=>by
  induction r with
  | nil=>exact h0
  | cons x r ih=>rw[List.reverse_cons];exact h1 _ _ ih
 have:=h2 l.reverse
 rwa [List.reverse_reverse] at this
theorem Z1X (ws:List Z8):Z14 ws→Z1l ws (Zg ws):=by
 refine WB (p:=fun ws=>Z14 ws→Z1l ws (Zg ws)) ?_ ?_ ws
 ·intro _
  refine ⟨fun a=>?_,fun p x=>?_⟩
  ·simp[S1,Z3]
  ·simp[S1,Z3,Ws]
 ·intro ws w ih hf
  have hf':Z14 ws:=fun y hy z hz=>hf y (by simp[hy]) z (by simp[hz])
  have I:=ih hf'
  rw[XD]
  generalize Zg ws=s at I
  obtain ⟨vs,ats⟩:=s
  obtain ⟨I1,I2⟩:=I
  simp only at I1 I2
  by_cases hr:Z7 w.at_=true
  ·by_cases ht:(Z3 ats w.at_).getD false=true
   ·-- it was there
    obtain ⟨y,hy,ry,ey⟩:=(I1 w.at_).1 ht
    have hyw:y=w:=hf y (by simp[hy]) w (by simp) ey
    subst hyw
    have hm:∀ x,x∈ws↔x∈ws++[y]:=fun x=>by
     simp only[List.mem_append,List.mem_singleton]
     exact ⟨.inl,fun h=>h.elim id (fun e=>e ▸ hy)⟩
    have hc:Yi ats y.at_=151:=by simp[Yi,hr,ht]
    have e1:Wc (vs,ats) y=(vs,ats):=by simp[Wc,YI,Wk,hc]
    rw[e1]
    refine ⟨fun a=>(I1 a).trans ⟨fun ⟨z,hz,r⟩=>⟨z,(hm z).1 hz,r⟩,fun ⟨z,hz,r⟩=>⟨z,(hm z).2 hz,r⟩⟩,fun p x=>(I2 p x).trans ⟨Ws.mem hm,Ws.mem (fun x=>(hm x).symm)⟩⟩
   ·have ht':(Z3 ats w.at_).getD false=false:=by simpa using ht
    have hc:Yi ats w.at_=0:=by simp[Yi,hr,ht']
    have hnew:∀ y∈ws,Z7 y.at_=true→y.at_≠w.at_:=fun y hy ry e=>ht ((I1 w.at_).2 ⟨y,hy,ry,e⟩)
    refine ⟨fun a=>?_,fun p x=>?_⟩
    ·show (Z3 (Wk ats w.at_) a).getD false=true↔_
     rw[Wk,if_pos hc]
     by_cases ha:w.at_=a
     ·subst ha
      rw[ZW]
      simp only[Option.getD_some,true_iff]
      exact ⟨w,by simp,hr,rfl⟩
     ·rw[ZF _ _ ha,I1 a]
      constructor
      ·rintro ⟨y,hy,r⟩;exact ⟨y,by simp[hy],r⟩
      ·rintro ⟨y,hy,ry,ey⟩
       rcases List.mem_append.1 hy with hy|hy
       ·exact ⟨y,hy,ry,ey⟩
       ·rw[List.mem_singleton.1 hy] at ey;exact absurd ey ha
    ·show Z3 (YI vs ats w.at_ w.pl w.value) p=some x↔_
     by_cases hlt:Yd (W7 (Z3 vs w.pl)) w.at_<0
     ·rw[YI,if_pos ⟨hc,hlt⟩]
      rw[WA] at hlt
      have old:∀ z∈ws,Z7 z.at_=true→z.pl=w.pl→ZK z.at_ w.at_:=by
       intro z hz rz pz
       cases hg:Z3 vs w.pl with
       | none =>
        exfalso
        have:∃ x,Ws ws w.pl x:=Qo ws w.pl z hz rz pz
        obtain ⟨x,hx⟩:=this
        rw[(I2 w.pl x).2 hx] at hg
        cases hg
       | some x0 =>
        rw[hg] at hlt
        obtain ⟨u,hu,ru,pu,ex,mu⟩:=(I2 w.pl x0).1 hg
        subst ex
        have hlt':ZK u.at_ w.at_:=hlt
        rcases Y8 z.at_ u.at_ with t|t|t
        ·exact ZC t hlt'
        ·rw[t];exact hlt'
        ·exact absurd t (mu z hz rz pz)
      by_cases hp:w.pl=p
      ·subst hp
       rw[ZW]
       constructor
       ·intro e
        cases e
        refine ⟨w,by simp,hr,rfl,rfl,fun z hz rz pz hl=>?_⟩
        rcases List.mem_append.1 hz with hz|hz
        ·exact Zm _ (ZC hl (old z hz rz pz))
        ·rw[List.mem_singleton.1 hz] at hl;exact Zm _ hl
       ·rintro ⟨y,hy,ry,py,rfl,my⟩
        rcases List.mem_append.1 hy with hy|hy
        ·exact absurd (old y hy ry py) (my w (by simp) hr rfl)
        ·rw[List.mem_singleton.1 hy]
      ·rw[ZF _ _ hp,I2 p x]
       constructor
       ·rintro ⟨y,hy,ry,py,e,my⟩
        refine ⟨y,by simp[hy],ry,py,e,fun z hz rz pz=>?_⟩
        rcases List.mem_append.1 hz with hz|hz
        ·exact my z hz rz pz
        ·rw[List.mem_singleton.1 hz] at pz;exact absurd pz hp
       ·rintro ⟨y,hy,ry,py,e,my⟩
        rcases List.mem_append.1 hy with hy|hy
        ·exact ⟨y,hy,ry,py,e,fun z hz=>my z (by simp[hz])⟩
        ·rw[List.mem_singleton.1 hy] at py;exact absurd py hp
     ·rw[YI,if_neg (fun h=>hlt h.2),I2 p x]
      rw[WA] at hlt
      obtain ⟨u,hu,ru,pu,hlu⟩:∃ u∈ws,Z7 u.at_=true∧u.pl=w.pl∧ZK w.at_ u.at_:=by
       cases hg:Z3 vs w.pl with
       | none=>rw[hg] at hlt;exact absurd (UJ hr) hlt
       | some x0 =>
        rw[hg] at hlt
        obtain ⟨u,hu,ru,pu,ex,mu⟩:=(I2 w.pl x0).1 hg
        subst ex
        refine ⟨u,hu,ru,pu,?_⟩
        rcases Y8 w.at_ u.at_ with t|t|t
        ·exact t
        ·exact absurd t.symm (hnew u hu ru)
        ·exact absurd t hlt
      constructor
      ·rintro ⟨y,hy,ry,py,e,my⟩
       refine ⟨y,by simp[hy],ry,py,e,fun z hz rz pz hl=>?_⟩
       rcases List.mem_append.1 hz with hz|hz
       ·exact my z hz rz pz hl
       ·rw[List.mem_singleton.1 hz] at pz hl
        exact my u hu ru (pu.trans pz) (ZC hl hlu)
      ·rintro ⟨y,hy,ry,py,e,my⟩
       rcases List.mem_append.1 hy with hy|hy
       ·exact ⟨y,hy,ry,py,e,fun z hz=>my z (by simp[hz])⟩
       ·rw[List.mem_singleton.1 hy] at py my
        exact absurd hlu (my u (by simp[hu]) ru (pu.trans py))
  ·-- it may not be
   have hr':Z7 w.at_=false:=by simpa using hr
   have hc:Yi ats w.at_=1:=by simp[Yi,hr']
   have e1:Wc (vs,ats) w=(vs,ats):=by simp[Wc,YI,Wk,hc]
   rw[e1]
   have hm:∀ x,Z7 x.at_=true→(x∈ws↔x∈ws++[w]):=fun x hx=>by
    simp only[List.mem_append,List.mem_singleton]
    exact ⟨.inl,fun h=>h.elim id (fun e=>by rw[e] at hx;exact absurd hx hr)⟩
   refine ⟨fun a=>(I1 a).trans ⟨fun ⟨z,hz,r⟩=>⟨z,(hm z r.1).1 hz,r⟩,fun ⟨z,hz,r⟩=>⟨z,(hm z r.1).2 hz,r⟩⟩,fun p x=>(I2 p x).trans ⟨?_,?_⟩⟩
   ·rintro ⟨y,hy,ry,py,e,my⟩
    exact ⟨y,(hm y ry).1 hy,ry,py,e,fun z hz rz=>my z ((hm z rz).2 hz) rz⟩
   ·rintro ⟨y,hy,ry,py,e,my⟩
    exact ⟨y,(hm y ry).2 hy,ry,py,e,fun z hz rz=>my z ((hm z rz).1 hz) rz⟩
structure XE (vs:List (Pl × Wr)) (b:St) (l:List Atr):Prop where
 mem:∀ a,a∈l↔∃ x,Z3 vs ⟨b,a.name⟩=some x∧x.value=a.value
 rising:l.Pairwise (fun a c=>a.name.toList<c.name.toList)
theorem SY {l l':List Atr} (hm:∀ a,a∈l↔a∈l') (h:l.Pairwise (fun a c=>a.name.toList<c.name.toList)) (h':l'.Pairwise (fun a c=>a.name.toList<c.name.toList)):l=l':=by
 induction l generalizing l' with
 | nil =>
  cases l' with
  | nil=>rfl
  | cons y l'=>exact absurd ((hm y).2 (by simp)) (by simp)
 | cons x l ih =>
  cases l' with
  | nil=>exact absurd ((hm x).1 (by simp)) (by simp)
  | cons y l' =>
   obtain ⟨h1,h2⟩:=List.pairwise_cons.1 h
   obtain ⟨h1',h2'⟩:=List.pairwise_cons.1 h'
   have hxy:x=y:=by
    rcases List.mem_cons.1 ((hm x).1 (by simp)) with e|e
    ·exact e
    ·rcases List.mem_cons.1 ((hm y).2 (by simp)) with f|f
     ·exact f.symm
     ·exact absurd (List.lt_trans (h1 y f) (h1' x e)) (List.lt_irrefl _)
   subst hxy
   congr 1
   refine ih (fun a=>?_) h2 h2'
   constructor
   ·intro ha
    rcases List.mem_cons.1 ((hm a).1 (by simp[ha])) with e|e
    ·rw[e] at ha;exact absurd (h1 x ha) (List.lt_irrefl _)
    ·exact e
   ·intro ha
    rcases List.mem_cons.1 ((hm a).2 (by simp[ha])) with e|e
    ·rw[e] at ha;exact absurd (h1' x ha) (List.lt_irrefl _)
    ·exact e
theorem XE.unique {vs vs':List (Pl × Wr)} {b:St} {l l':List Atr} (h:XE vs b l) (h':XE vs' b l') (he:∀ n,Z3 vs ⟨b,n⟩=Z3 vs' ⟨b,n⟩):l=l' :=
 SY (fun a=>by rw[h.mem a,h'.mem a,he]) h.rising h'.rising
theorem Ug {vs:List (Pl × Wr)} (hn:(vs.map (·.1)).Nodup) {b:St} {l:List Atr} (hp:l.Perm (ZM vs b)) (hs:l.Pairwise (fun x c=>Go.Proofs.ltOf (fun x y:Atr=>Yv x.name y.name) c x=false)):XE vs b l:=by
 have hmem:∀ a,a∈l↔∃ x,Z3 vs ⟨b,a.name⟩=some x∧x.value=a.value:=by
  intro a
  rw[hp.mem_iff]
  simp only[ZM,List.mem_map,List.mem_filter,decide_eq_true_eq]
  constructor
  ·rintro ⟨⟨⟨pb,pn⟩,x⟩,⟨h1,h2⟩,rfl⟩
   simp only at h2
   subst h2
   exact ⟨x,VO hn h1,rfl⟩
  ·rintro ⟨x,h1,h2⟩
   exact ⟨(⟨b,a.name⟩,x),⟨Tu h1,rfl⟩,by cases a;simp_all⟩
 have hnd:(ZM vs b).Pairwise (fun x y=>x.name≠y.name):=by
  unfold ZM
  rw[List.pairwise_map]
  have h0:(vs.filter (fun p=>decide (p.1.blk=b))).Pairwise (fun p q=>p.1≠q.1):=(List.pairwise_map.1 hn).filter _
  refine List.Pairwise.imp_of_mem ?_ h0
  intro p q hp hq hne e
  simp only[List.mem_filter,decide_eq_true_eq] at hp hq
  apply hne
  obtain ⟨⟨pb,pn⟩,x⟩:=p
  obtain ⟨⟨qb,qn⟩,y⟩:=q
  simp only at hp hq e
  rw[hp.2,hq.2,e]
 have hnd':l.Pairwise (fun x y=>x.name≠y.name):=(hp.symm.pairwise_iff (fun {x y} h=>fun e=>h e.symm)).1 hnd
 refine ⟨hmem,?_⟩
 have:=hs.and hnd'
 refine this.imp ?_
 rintro x y ⟨h1,h2⟩
 simp only[Go.Proofs.ltOf,ltB,decide_eq_false_iff_not] at h1
 exact Classical.byContradiction fun h3=>h2 ((ZO _ _).1 (WE _ _ h3 h1))
theorem Uk {l:List Z8} {k:Nat} {x:Z8} (h:l[k]?=some x):l.take (k+1)=l.take k++[x]:=by
 obtain ⟨hl,rfl⟩:=List.getElem?_eq_some_iff.1 h
 rw[List.take_succ_eq_append_getElem hl]
theorem S2 {a b:St} (h1:a.n=b.n) (h2:a.r=b.r):a=b:=by
 cases a
 cases b
 simp only at h1 h2
 rw[h1,h2]
def WW (w:World) (r B:Nat) (L:List Z8):Prop :=
 ∃ v,w.heap[r]?=some (.cells #[v] 81 (0,0))∧Own Z8.cells 6 58 B w v L
theorem WW.below {w w':World} {r B:Nat} {L:List Z8} (h:WW w r B L) (hb:Below w.heap.size w w'):WW w' r B L:=by
 obtain ⟨v,h1,h2⟩:=h
 exact ⟨v,(hb.block r (Array.getElem?_eq_some_iff.1 h1).1).trans h1,h2.ext (Ext.of_below (S:=fun _=>False) hb) (fun _ _ h=>h)⟩
theorem Wm {w:World} {r:Nat} {v:Value} {t:TypeId} (h:w.heap[r]?=some (.cells #[v] t (0,0))):w.cell? ⟨r,0,none⟩=some v:=by simp[World.cell?,h]
theorem Uq {w:World} {r:Nat} {v:Value} {t:TypeId} (h:w.heap[r]?=some (.cells #[v] t (0,0))):w.frozen? ⟨r,0,none⟩=false:=by simp[World.frozen?,h]
theorem Ql {w:World} {r:Nat} {u v:Value} {t:TypeId} (h:w.heap[r]?=some (.cells #[u] t (0,0))):(w.setCell ⟨r,0,none⟩ v).heap[r]?=some (.cells #[v] t (0,0)):=by
 simp[World.setCell,Array.getElem?_modify,h]
theorem Z1R (w:World) (r:Nat) (v:Value):Ext (·=r) w (w.setCell ⟨r,0,none⟩ v):=(Ext.refl (·=r) w).setCell (p:=⟨r,0,none⟩) (.inr rfl) v
theorem Z0T:(Tryz.prog.info? 58).map (fun i=>(i.zero,i.size,i.bytes))=some (some (.agg #[.int .i64 0,.int .i64 0,.int .i64 0,.int .i64 0,.string ⟨#[]⟩,.string ⟨#[]⟩]),6,64):=by kernel_rfl
theorem Z2J (r:Nat) (an ar bn br:Int) (nm vl:ByteArray) (w:World) (hr:Z7 ⟨an,ar⟩=false) :
  Calls Tryz.prog 36 #[.pointer (some ⟨r,0,none⟩),.agg #[.int .i64 an,.int .i64 ar],.agg #[.int .i64 bn,.int .i64 br],.string nm,.string vl] w
   fun e w'=>e=.returned (.int .i64 1)∧Below w.heap.size w w':=by
 go_enter Tryz.func36,Tryz.ntmps36
 go_wp2_with fail
 refine (ZH _ _ _).mono ?_
 rintro e w1 ⟨rfl,b1⟩
 rw[hr]
 go_wp2_with fail
 go_ret
 exact ⟨rfl,(((Below.refl _ _).alloc (Nat.le_refl _) _).alloc (by simp) _).trans (b1.mono (by simp <;> omega))⟩
def XM (L:List Z8) (a:St):Bool:=L.any (fun x=>decide (x.at_=a))
theorem Z3p (r B:Nat) (v:Value) (L:List Z8) (an ar bn br:Int) (nm vl:ByteArray) (w:World) (hb:w.heap[r]?=some (.cells #[v] 81 (0,0))) (hown:Own Z8.cells 6 58 B w v L) (hB:B≤w.heap.size) (hsz:L.length≤1000) (hr:Z7 ⟨an,ar⟩=true) :
  Calls Tryz.prog 36 #[.pointer (some ⟨r,0,none⟩),.agg #[.int .i64 an,.int .i64 ar],.agg #[.int .i64 bn,.int .i64 br],.string nm,.string vl] w
   fun e w'=>(XM L ⟨an,ar⟩=true∧e=.returned (.int .i64 151)∧Below w.heap.size w w')∨(XM L ⟨an,ar⟩=false∧e=.returned (.int .i64 0)∧WW w' r B (L++[⟨⟨an,ar⟩,⟨bn,br⟩,nm,vl⟩])∧Ext (fun k=>k=r∨v.ownBlock=some k) w w'):=by
 obtain ⟨va,vc,rfl,hcap,hmax,hcs⟩:=hown.slice (fun _=>rfl)
 unfold maxLen at hmax
 obtain ⟨i0,hi,hz0,hz1',hz2⟩:=info_parts Z0T
 go_enter Tryz.func36,Tryz.ntmps36
 go_wp2_with fail
 refine (ZH _ _ _).mono ?_
 rintro e w1 ⟨rfl,b1⟩
 rw[hr]
 have y1:Below w.heap.size w w1:=(((Below.refl _ _).alloc (Nat.le_refl _) _).alloc (by simp) _).trans (b1.mono (by simp <;> omega))
 have k0:w1.cell? ⟨w.heap.size,0,none⟩=some (.int .i64 an):=Z0 b1 (by go_simp)
 have k1:w1.cell? ⟨w.heap.size,1,none⟩=some (.int .i64 ar):=Z0 b1 (by go_simp)
 have k2:w1.cell? ⟨w.heap.size+1,0,none⟩=some (.int .i64 bn):=Z0 b1 (by go_simp)
 have k3:w1.cell? ⟨w.heap.size+1,1,none⟩=some (.int .i64 br):=Z0 b1 (by go_simp)
 have hb1:=(y1.block r (Array.getElem?_eq_some_iff.1 hb).1).trans hb
 have c0:=Wm hb1
 have hrl:r<w.heap.size:=(Array.getElem?_eq_some_iff.1 hb).1
 have own1:=hown.ext (Ext.of_below (S:=fun _=>False) y1) (fun _ _ h=>h)
 clear b1 hb hown
 go_wp2_with fail
 go_loopg [12] L.length (fun g i wx=>∃ k:Nat,g=L.length - k∧k≤L.length∧i=.int .i64 k∧Hid (∀ j x,j<k→L[j]?=some x→x.at_≠⟨an,ar⟩)∧Below w1.heap.size w1 wx)
 case atStart=>exact ⟨0,rfl,Nat.zero_le _,rfl,fun j x hj=>absurd hj (by omega),Below.refl _ _⟩
 case round =>
  obtain ⟨k,hg,hk,rfl,hpre,hX⟩:=hrel
  have HG:=Lib.hid hg
  clear hg
  have c0':=Z0 hX c0
  have k0':=Z0 hX k0
  have k1':=Z0 hX k1
  by_cases hlt:k<L.length
  ·obtain ⟨x,hx⟩:∃ x,L[k]?=some x:=⟨_,List.getElem?_eq_getElem hlt⟩
   obtain ⟨bs,os,rfl,hcc⟩:=hcs (by intro e;rw[e] at hlt;simp at hlt)
   have x0:wr.cell? ⟨bs,os+k*6,none⟩=some (.int .i64 x.at_.n):=Z0 hX (Z0 y1 (hcc k x hx 0 _ rfl))
   have x1:wr.cell? ⟨bs,os+k*6+1,none⟩=some (.int .i64 x.at_.r):=Z0 hX (Z0 y1 (hcc k x hx 1 _ rfl))
   have HX:=Lib.hid hx
   clear hx hcc hcs k0 k1 k2 k3 c0
   by_cases hat:x.at_=⟨an,ar⟩
   ·have e1:x.at_.n=an:=by rw[hat]
    have e2:x.at_.r=ar:=by rw[hat]
    rw[e1] at x0
    rw[e2] at x1
    have hh:XM L ⟨an,ar⟩=true:=by
     rw[XM,List.any_eq_true]
     exact ⟨x,List.mem_of_getElem? HX.out,by simp[hat]⟩
    have HH:=Lib.hid hh
    clear hat e1 e2 hh
    go_wp2_with fail
    go_region_held3 (fun W=>W.cell? ⟨r,0,none⟩=some (.slice (some ⟨bs,os,none⟩) L.length vc)∧W.cell? ⟨bs,os+k*6,none⟩=some (.int .i64 an)∧W.cell? ⟨bs,os+k*6+1,none⟩=some (.int .i64 ar)∧W.cell? ⟨w.heap.size,0,none⟩=some (.int .i64 an)∧W.cell? ⟨w.heap.size,1,none⟩=some (.int .i64 ar)) (exact ⟨c0',x0,x1,k0',k1'⟩) (fail)
    go_wp2_with fail
    go_ret
    exact .inl ⟨HH.out,rfl,(y1.trans (hX.mono y1.size)).drew⟩
   ·have hd:(x.at_.n == an && x.at_.r == ar)=false:=by
     rw[Bool.and_eq_false_iff]
     by_cases e1:x.at_.n=an
     ·right;simp;exact fun e2=>hat (S2 e1 e2)
     ·left;simpa using e1
    by_cases e1:x.at_.n=an
    ·have e2:¬ x.at_.r=ar:=fun e2=>hat (S2 e1 e2)
     have HA:=Lib.hid hat
     clear hat hd
     go_wp2_with fail
     go_region_held3 (fun W=>W.cell? ⟨r,0,none⟩=some (.slice (some ⟨bs,os,none⟩) L.length vc)∧W.cell? ⟨bs,os+k*6,none⟩=some (.int .i64 x.at_.n)∧W.cell? ⟨bs,os+k*6+1,none⟩=some (.int .i64 x.at_.r)∧W.cell? ⟨w.heap.size,0,none⟩=some (.int .i64 an)∧W.cell? ⟨w.heap.size,1,none⟩=some (.int .i64 ar)) (exact ⟨c0',x0,x1,k0',k1'⟩) (fail)
     go_wp2_with fail
     go_roundg (L.length - (k+1))
     case measure=>rw[HG.out];omega
     case rel =>
      refine ⟨k+1,rfl,hlt,by go_num,fun j y hj hy=>?_,hX.drew⟩
      by_cases hjk:j<k
      ·exact hpre.out j y hjk hy
      ·obtain rfl:j=k:=by omega
       rw[HX.out] at hy;cases hy;exact HA.out
    ·have HA:=Lib.hid hat
     clear hat hd
     go_wp2_with fail
     go_region_held3 (fun W=>W.cell? ⟨r,0,none⟩=some (.slice (some ⟨bs,os,none⟩) L.length vc)∧W.cell? ⟨bs,os+k*6,none⟩=some (.int .i64 x.at_.n)∧W.cell? ⟨bs,os+k*6+1,none⟩=some (.int .i64 x.at_.r)∧W.cell? ⟨w.heap.size,0,none⟩=some (.int .i64 an)∧W.cell? ⟨w.heap.size,1,none⟩=some (.int .i64 ar)) (exact ⟨c0',x0,x1,k0',k1'⟩) (fail)
     go_wp2_with fail
     go_roundg (L.length - (k+1))
     case measure=>rw[HG.out];omega
     case rel =>
      refine ⟨k+1,rfl,hlt,by go_num,fun j y hj hy=>?_,hX.drew⟩
      by_cases hjk:j<k
      ·exact hpre.out j y hjk hy
      ·obtain rfl:j=k:=by omega
       rw[HX.out] at hy;cases hy;exact HA.out
  ·have hh:XM L ⟨an,ar⟩=false:=by
    rw[Bool.eq_false_iff]
    intro hh
    rw[XM,List.any_eq_true] at hh
    obtain ⟨x,hx,he⟩:=hh
    obtain ⟨j,hj⟩:=List.getElem?_of_mem hx
    have:=(List.getElem?_eq_some_iff.1 hj).1
    exact hpre.out j x (by omega) hj (by simpa using he)
   have HH:=Lib.hid hh
   clear hh hpre
   have k2':=Z0 hX k2
   have k3':=Z0 hX k3
   have own2:=own1.ext (Ext.of_below (S:=fun _=>False) hX) (fun _ _ h=>h)
   have hb2:=(hX.block r (by have:=y1.size;omega)).trans hb1
   have f0:=Uq hb2
   have hzr:w.heap.size+1<wr.heap.size:=by have:=Zj k2';omega
   have hrw:r<wr.heap.size:=by omega
   have hBw:B≤wr.heap.size:=by omega
   have hnb:∀ j u,(Z8.cells ⟨⟨an,ar⟩,⟨bn,br⟩,nm,vl⟩)[j]?=some u→(wr.alloc (.cells #[.int .i64 an,.int .i64 ar,.int .i64 bn,.int .i64 br,.string nm,.string vl] 58)).cell? ⟨wr.heap.size,j,none⟩=some u:=by
    intro j u hj
    rw[World.cell?_alloc_at _ _ _ _ rfl]
    rw[←hj,Z8.cells]
    simp
   have HNB:=Lib.hid hnb
   clear hnb
   have hown2:=own2.alloc (.cells #[.int .i64 an,.int .i64 ar,.int .i64 bn,.int .i64 br,.string nm,.string vl] 58)
   have HOW:=Lib.hid hown2
   have hnr:∀ t cur,wr.heap[r]?=some (.cells cur t (0,0))→t=81:=fun t cur h=>by rw[hb2] at h;cases h;rfl
   have hnr2:¬ (Value.slice va L.length vc).ownBlock=some r:=fun e=>by
    obtain ⟨cur,hc⟩:=own2.tag e
    have:=hnr _ _ hc
    cases this
   have hall:∀ w5 w6:World,w5.heap=(wr.alloc (.cells #[.int .i64 an,.int .i64 ar,.int .i64 bn,.int .i64 br,.string nm,.string vl] 58)).heap→Ext (fun b=>(Value.slice va L.length vc).ownBlock=some b) w5 w6→w6.heap[r]?=some (.cells #[.slice va L.length vc] 81 (0,0)):=fun w5 w6 h5 hx6=>by
    rw[hx6.block r (by rw[h5];simp;omega) hnr2,h5,Below.heap_alloc _ _ _ hrw];exact hb2
   have HALL:=Lib.hid hall
   clear hnr hnr2 hall
   clear hown2 hcs k0 k1 k2 k3 c0 own1
   go_wp2_with fail
   go_region_law (refine V5 (v:=.slice va L.length vc) (l:=L) rfl (.tmp 40) (.tmp 46) 36 rfl i0 _ 64 Tryz.underlying36 hi hz0 hz1' hz2 rfl (by omega) (fun _=>rfl) (fun x u hu=>by simp[Z8.cells] at hu;rcases hu with rfl|rfl|rfl|rfl|rfl|rfl <;> rfl) rfl HOW.out ⟨⟨an,ar⟩,⟨bn,br⟩,nm,vl⟩ wr.heap.size 1 rfl HNB.out (by unfold maxLen;omega) (by omega) (by simp;omega) ?_;intro v' w6 hown6 hx6;obtain ⟨g6,cp6,rfl⟩:∃ g c,v'=.slice (some ⟨g,0,none⟩) (L.length+1) c:=(by rcases hown6.eq_slice with ⟨_,h⟩|⟨g,c,h,_⟩;(simp at h);exact ⟨g,c,by simpa using h⟩);have hb6:=HALL.out _ w6 (by rfl) hx6;have g1:=Wm hb6;have g2:=Uq hb6)
   all_goals
    have hfin:WW (w6.setCell ⟨r,0,none⟩ (.slice (some ⟨g6,0,none⟩) (L.length+1) cp6)) r B (L++[⟨⟨an,ar⟩,⟨bn,br⟩,nm,vl⟩]):=by
     refine ⟨_,Ql hb6,hown6.ext (Z1R _ _ _) (fun b hb e=>?_)⟩
     obtain ⟨cur,hc⟩:=hown6.tag hb
     rw[e,hb6] at hc
     cases hc
    have hx1:Ext (fun k=>k=r∨(Value.slice va L.length vc).ownBlock=some k) w wr:=Ext.of_below (y1.trans (hX.mono y1.size))
    have hx2:Ext (fun k=>k=r∨(Value.slice va L.length vc).ownBlock=some k) w (w6.setCell ⟨r,0,none⟩ (.slice (some ⟨g6,0,none⟩) (L.length+1) cp6)):=by
     refine Ext.setCell ?_ (.inr (.inl rfl)) _
     refine (hx1.alloc (.cells #[.int .i64 an,.int .i64 ar,.int .i64 bn,.int .i64 br,.string nm,.string vl] 58)).andThen (T:=fun b=>(Value.slice va L.length vc).ownBlock=some b) ?_ (fun b _ hb=>.inr hb)
     exact ⟨hx6.os,hx6.tape,hx6.output,hx6.size,hx6.block⟩
    have HF:=Lib.hid hfin
    have HF2:=Lib.hid hx2
    clear hfin hx1 hx2 hown6 hx6 hb6 g1 g2 hX y1 own2 hb2 f0 hb1 c0' k0' k1' k2' k3'
    go_wp2_with fail
    go_ret
    exact .inr ⟨HH.out,rfl,HF.out,HF2.out⟩
def YR (L:List Z8) (a:St):Int:=if Z7 a=false then 1 else if XM L a=true then 151 else 0
def Wp (L:List Z8) (x:Z8):List Z8:=if YR L x.at_=0 then L++[x] else L
theorem Z2R (r B:Nat) (v:Value) (L:List Z8) (x:Z8) (w:World) (hb:w.heap[r]?=some (.cells #[v] 81 (0,0))) (hown:Own Z8.cells 6 58 B w v L) (hB:B≤w.heap.size) (hsz:L.length≤1000) :
  Calls Tryz.prog 36 #[.pointer (some ⟨r,0,none⟩),.agg #[.int .i64 x.at_.n,.int .i64 x.at_.r],.agg #[.int .i64 x.blk.n,.int .i64 x.blk.r],.string x.name,.string x.value] w
   fun e w'=>e=.returned (.int .i64 (YR L x.at_))∧WW w' r B (Wp L x)∧Ext (fun k=>k=r∨v.ownBlock=some k) w w':=by
 by_cases hr:Z7 x.at_=true
 ·refine (Z3p r B v L x.at_.n x.at_.r x.blk.n x.blk.r x.name x.value w hb hown hB hsz hr).mono ?_
  rintro e w' (⟨h1,rfl,h2⟩|⟨h1,rfl,h2,h3⟩)
  ·have h1':XM L x.at_=true:=h1
   have e1:YR L x.at_=151:=by simp[YR,hr,h1']
   rw[Wp,e1]
   exact ⟨rfl,WW.below ⟨v,hb,hown⟩ h2,Ext.of_below h2⟩
  ·have h1':XM L x.at_=false:=h1
   have e1:YR L x.at_=0:=by simp[YR,hr,h1']
   rw[Wp,e1]
   exact ⟨rfl,h2,h3⟩
 ·have hr':Z7 x.at_=false:=by simpa using hr
  refine (Z2J r x.at_.n x.at_.r x.blk.n x.blk.r x.name x.value w hr').mono ?_
  rintro e w' ⟨rfl,h2⟩
  have e1:YR L x.at_=1:=by simp[YR,hr']
  rw[Wp,e1]
  exact ⟨rfl,WW.below ⟨v,hb,hown⟩ h2,Ext.of_below h2⟩
end Go.Proofs.YtlgipkemoldckaaGreatDoor
