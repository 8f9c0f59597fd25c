/- OplogAnew, part 5 of what the proof leans on (made short by a program). -/
import Derived.Test.YtgmdimbiipemhaaGreatDoorAnZ4
set_option linter.unusedSimpArgs false
set_option linter.unusedVariables false
set_option linter.unusedSectionVars false
set_option maxRecDepth 20000
set_option maxHeartbeats 30000000
namespace Go.Proofs.YtgmdimbiipemhaaGreatDoor
open Go.RowKit Go.Deep Go.Shelf
def OpD.fits (o:OpD):Prop:=o.key.size≤9223372036854775807∧o.name.size≤9223372036854775807∧o.value.size≤9223372036854775807
theorem Z3S (o:OpD) (B:Nat) (W:World) (h:OB B o W):Calls Tryz.prog 139 #[.slice (some ⟨B,2,none⟩) 8 8] W fun e w'=>e=.returned (.int .i64 (VW o.deps))∧w'=W :=
 Any.slices_Min_int Tryz.minF B 2 8 8 o.deps W (by omega) (by simp[OpD.deps]) (by omega) (fun j hj=>h.cell (by
  have h8:j<8:=by simpa [OpD.deps] using hj
  match j,h8 with
  | 0,_=>rfl
  | 1,_=>rfl
  | 2,_=>rfl
  | 3,_=>rfl
  | 4,_=>rfl
  | 5,_=>rfl
  | 6,_=>rfl
  | 7,_=>rfl))
theorem Z0E (o:OpD) (W:World):(Instr.build 68 #[(0,.agg #[.int .i64 o.id.n,.int .i64 o.id.r]),(1,.agg #[.int .i64 o.d0,.int .i64 o.d1,.int .i64 o.d2,.int .i64 o.d3,.int .i64 o.d4,.int .i64 o.d5,.int .i64 o.d6,.int .i64 o.d7]),(2,.int .i64 o.kind)]).run Tryz.prog W=.ok (.agg o.bare.cells.toArray) W:=by kernel_rfl
theorem RR {P:Program} {ops:Array Oper} {rest:List Oper} {o:Oper} {a:Act} {Q:Exit→Act→World→Prop} {W:World} (hg:o.guard=none) {T:TypeId} {x0 x1 x2:Operand} {v0 v1 v2 v:Value} (ho:o.op=.build T #[(0,x0),(1,x1),(2,x2)]) (h0:a.eval x0=v0) (h1:a.eval x1=v1) (h2:a.eval x2=v2)
  (hr:(Instr.build T #[(0,v0),(1,v1),(2,v2)]).run P W=.ok v W) (h:wpList P ops Q rest (a.put o.dst v) W):wpList P ops Q (o :: rest) a W :=
 QC hg ho (by simp[h0,h1,h2]) hr h
theorem Z9 {P:Program} {ops:Array Oper} {rest:List Oper} {o:Oper} {a:Act} {Q:Exit→Act→World→Prop} {W:World} {v:Value} (hw:Region.wanted o (yielded ops a.tmps)=true)
  (hr:(execOp a.eval o).run P W=.ok (.value v) W) (h:wpList P ops Q rest (a.put o.dst v) W):wpList P ops Q (o :: rest) a W:=by
 unfold wpList
 rw[if_pos hw]
 left
 rw[Oper.wp,hr]
 exact h
def RF (w:World) (Bn:Nat) (o x:OpD) (W:World):Prop:=OB w.heap.size o W∧OB (Bn+1) x W∧W.cell? ⟨Bn,0,none⟩=some (.int .i64 0)∧W.cell? ⟨Bn,1,none⟩=some (.int .i64 0)∧Below w.heap.size w W
theorem RF.below {w W W':World} {Bn:Nat} {o x:OpD} (h:RF w Bn o x W) (hb:Below W.heap.size W W'):RF w Bn o x W' :=
 ⟨h.1.below hb h.1.lt,h.2.1.below hb h.2.1.lt,Y9 hb h.2.2.1,Y9 hb h.2.2.2.1,h.2.2.2.2.trans (hb.mono (Nat.le_of_lt h.1.lt))⟩
theorem RF.drew {w W:World} {Bn:Nat} {o x:OpD} (h:RF w Bn o x W):RF w Bn o x W.drew:=⟨h.1,h.2.1,h.2.2.1,h.2.2.2.1,h.2.2.2.2.drew⟩
theorem RF.ext {w W W':World} {Bn:Nat} {o x x':OpD} (h:RF w Bn o x W) (hx:Ext (·=Bn+1) W W') (hB:w.heap.size<Bn) (ho:OB (Bn+1) x' W'):RF w Bn o x' W' :=
 ⟨h.1.ext hx (by omega),ho,hx.keep h.2.2.1 (by omega),hx.keep h.2.2.2.1 (by omega),Ext.new h.2.2.2.2 hx (fun i hi _ e=>by omega) (Nat.le_of_lt h.1.lt)⟩
theorem Z0I {o:OpD} (h:o.kind=1):o.kindOk=(o.okI && decide (o.keepI=o)):=by unfold OpD.kindOk;rw[if_pos h]
theorem Z0Z {o:OpD} (h:o.kind=2):o.kindOk=(o.may o.ref && decide (o.keepR=o)):=by unfold OpD.kindOk;rw[if_neg (by omega),if_pos h]
theorem Z17 {o:OpD} (h:o.kind=3):o.kindOk=(o.okM && decide (o.keepM=o)):=by unfold OpD.kindOk;rw[if_neg (by omega),if_neg (by omega),if_pos h]
theorem S8 {o:OpD} (h:o.kind=4):o.kindOk=(o.okS && decide (o.keepS=o)):=by unfold OpD.kindOk;rw[if_neg (by omega),if_neg (by omega),if_neg (by omega),if_pos h]
theorem UG {o:OpD} (h:o.kind=5):o.kindOk=(o.okK && decide (o.keepK=o)):=by unfold OpD.kindOk;rw[if_neg (by omega),if_neg (by omega),if_neg (by omega),if_neg (by omega),if_pos h]
theorem Z4r {o:OpD} (h1:¬ o.kind=1) (h2:¬ o.kind=2) (h3:¬ o.kind=3) (h4:¬ o.kind=4) (h5:¬ o.kind=5):o.kindOk=false:=by unfold OpD.kindOk;rw[if_neg h1,if_neg h2,if_neg h3,if_neg h4,if_neg h5]
theorem Z7w {s:St} (h1:s.n=0) (h2:s.r=0):s=⟨0,0⟩:=by cases s;simp_all
theorem Z65 {s:St} (h1:¬ s.n=0):¬ s=⟨0,0⟩:=fun e=>h1 (by rw[e])
theorem Z3y {s t:St} (h1:s.n=t.n) (h2:s.r=t.r):s=t:=by cases s;cases t;simp_all
theorem Z0T {s t:St} (h1:¬ s.n=t.n):¬ s=t:=fun e=>h1 (by rw[e])
theorem Z0M {s t:St} (h1:¬ s.r=t.r):¬ s=t:=fun e=>h1 (by rw[e])
theorem Z6c {s:St} (h1:¬ s.r=0):¬ s=⟨0,0⟩:=fun e=>h1 (by rw[e])
theorem Z2U (o:OpD) (W:World):Calls Tryz.prog 140 #[.agg #[.int .i64 o.d0,.int .i64 o.d1,.int .i64 o.d2,.int .i64 o.d3,.int .i64 o.d4,.int .i64 o.d5,.int .i64 o.d6,.int .i64 o.d7]] W fun e w'=>e=.returned (.int .i64 (Wx o.deps))∧Below W.heap.size W w' :=
 Z77 o.d0 o.d1 o.d2 o.d3 o.d4 o.d5 o.d6 o.d7 W
theorem Z0w (o:OpD) (w:World) (hfit:o.fits):Calls Tryz.prog 90 #[o.val] w fun e w'=>e=.returned (.bool o.right)∧Below w.heap.size w w':=by
 have HFIT:=Lib.hid hfit
 clear hfit
 unfold OpD.val
 go_enter Tryz.func90,Tryz.ntmps90
 go_upto_region 1 with fail
 have hb0:Below w.heap.size w (w.alloc (.cells o.cells.toArray 68)).drew:=((Below.refl _ _).alloc (Nat.le_refl _) _).drew
 have ho0:OB w.heap.size o (w.alloc (.cells o.cells.toArray 68)).drew:=OB.new w o
 have hS0:(fun W:World=>OB w.heap.size o W) (w.alloc (.cells o.cells.toArray 68)).drew:=ho0
 refine Z6 (fun W:World=>OB w.heap.size o W) (fun _=>false) (by kernel_rfl) ?_
 have hsz0:w.heap.size<(w.alloc (.cells o.cells.toArray 68)).drew.heap.size:=ho0.lt
 generalize (w.alloc (.cells o.cells.toArray 68)).drew=W1 at hS0 hb0 ho0 hsz0 ⊢
 have HB1:=Lib.hid hb0
 clear hb0 ho0
 refine J0 0 6 (.pointer (some ⟨w.heap.size,0,none⟩)) hS0 ?_
 try simp only[Ja]
 refine JR 1 7 (.agg #[.int .i64 o.id.n,.int .i64 o.id.r]) rfl rfl hS0 (fun W hW=>by exact Z8 rfl rfl (OB.part hW UY 0 _ rfl rfl)) ?_
 try simp only[Ja]
 refine Zm (i:=2) (d:=some 8) (f:=138) (args:=#[.agg #[.int .i64 o.id.n,.int .i64 o.id.r]]) (w':=W1) (by kernel_rfl) rfl rfl (by rfl) (by go_simp;try rfl) ?_
 refine (Z29 o.id.n o.id.r W1).mono ?_
 rintro e w2 ⟨rfl,b2⟩
 have hS2:(fun W:World=>OB w.heap.size o W) w2:=OB.below hS0 b2 (by omega)
 refine ⟨.bool (ZP o.id),rfl,fun _=>hS2,?_⟩
 try simp only[Ja]
 cases hr:ZP o.id with
 | false =>
  have HR:=Jh (OpD.right_no1 hr)
  clear hr
  refine J0 3 9 (.bool true) hS2 ?_
  try simp only[Ja]
  refine J0 4 10 (.bool true) hS2 ?_
  try simp only[Ja]
  refine JO 5 11 rfl rfl hS2 ?_
  try simp only[Ja]
  refine JO 6 12 rfl rfl hS2 ?_
  try simp only[Ja]
  refine JO 7 13 rfl rfl hS2 ?_
  try simp only[Ja]
  refine JO 8 14 rfl rfl hS2 ?_
  try simp only[Ja]
  refine J0 9 15 (.bool true) hS2 ?_
  try simp only[Ja]
  refine J0 10 16 (.bool true) hS2 ?_
  try simp only[Ja]
  refine JO 11 17 rfl rfl hS2 ?_
  try simp only[Ja]
  refine JO 12 18 rfl rfl hS2 ?_
  try simp only[Ja]
  refine JO 13 19 rfl rfl hS2 ?_
  try simp only[Ja]
  refine JO 14 20 rfl rfl hS2 ?_
  try simp only[Ja]
  refine JO 15 21 rfl rfl hS2 ?_
  try simp only[Ja]
  refine JO 16 22 rfl rfl hS2 ?_
  try simp only[Ja]
  refine JO 17 23 rfl rfl hS2 ?_
  try simp only[Ja]
  refine J0 18 24 (.bool true) hS2 ?_
  try simp only[Ja]
  refine Z3 (by kernel_rfl) ?_ _
  go_wp2_with fail
  go_ret
  exact ⟨by rw[HR.out];rfl,HB1.out.trans (b2.mono (Nat.le_of_lt hsz0))⟩
 | true =>
  refine J0 3 9 (.bool false) hS2 ?_
  try simp only[Ja]
  refine J0 4 10 (.bool false) hS2 ?_
  try simp only[Ja]
  refine J0 5 11 (.pointer (some ⟨w.heap.size,2,none⟩)) hS2 ?_
  try simp only[Ja]
  refine J0 6 12 (.slice (some ⟨w.heap.size,2,none⟩) 8 8) hS2 ?_
  try simp only[Ja]
  refine Zm (i:=7) (d:=some 13) (f:=139) (args:=#[.slice (some ⟨w.heap.size,2,none⟩) 8 8]) (w':=w2) (by kernel_rfl) rfl rfl (by rfl) (by go_simp;try rfl) ?_
  refine (Z3S o w.heap.size w2 hS2).mono ?_
  rintro e w3 ⟨rfl,e5⟩
  have hS3:(fun W:World=>OB w.heap.size o W) w3:=by rw[e5];exact hS2
  refine ⟨.int .i64 (VW o.deps),rfl,fun _=>hS3,?_⟩
  try simp only[Ja]
  rw[e5]
  clear hS3 e5 w3
  by_cases hm:VW o.deps<0
  ·have HR:=Jh (OpD.right_no2 hr hm)
   have hm1:decide (VW o.deps<0)=true:=decide_eq_true hm
   clear hr
   refine J0 8 14 (.bool true) hS2 ?_
   try simp only[Ja]
   refine J0 9 15 (.bool true) hS2 ?_
   try simp only[Ja]
   refine J0 10 16 (.bool true) hS2 ?_
   try simp only[Ja]
   refine JO 11 17 rfl rfl hS2 ?_
   try simp only[Ja]
   refine JO 12 18 rfl rfl hS2 ?_
   try simp only[Ja]
   refine JO 13 19 rfl rfl hS2 ?_
   try simp only[Ja]
   refine JO 14 20 rfl rfl hS2 ?_
   try simp only[Ja]
   refine JO 15 21 rfl rfl hS2 ?_
   try simp only[Ja]
   refine JO 16 22 rfl rfl hS2 ?_
   try simp only[Ja]
   refine JO 17 23 rfl rfl hS2 ?_
   try simp only[Ja]
   refine J0 18 24 (.bool true) hS2 ?_
   try simp only[Ja]
   refine Z3 (by kernel_rfl) ?_ _
   go_wp2_with fail
   go_ret
   exact ⟨by rw[HR.out];rfl,HB1.out.trans (b2.mono (Nat.le_of_lt hsz0))⟩
  ·have hm1:decide (VW o.deps<0)=false:=decide_eq_false hm
   refine J0 8 14 (.bool false) hS2 ?_
   try simp only[Ja]
   refine J0 9 15 (.bool false) hS2 ?_
   try simp only[Ja]
   refine J0 10 16 (.bool false) hS2 ?_
   try simp only[Ja]
   refine J0 11 17 (.pointer (some ⟨w.heap.size,2,none⟩)) hS2 ?_
   try simp only[Ja]
   refine JR 12 18 (.agg #[.int .i64 o.d0,.int .i64 o.d1,.int .i64 o.d2,.int .i64 o.d3,.int .i64 o.d4,.int .i64 o.d5,.int .i64 o.d6,.int .i64 o.d7]) rfl rfl hS2 (fun W hW=>by exact Z8 rfl rfl (OB.part hW Z86 2 _ rfl rfl)) ?_
   try simp only[Ja]
   refine J0 14 20 (.pointer (some ⟨w.heap.size,0,none⟩)) hS2 ?_
   try simp only[Ja]
   refine J0 15 21 (.pointer (some ⟨w.heap.size,0,none⟩)) hS2 ?_
   try simp only[Ja]
   refine JR 16 22 (.int .i64 o.id.n) rfl rfl hS2 (fun W hW=>by have q0:=OB.cell hW (j:=0) rfl;go_simp;try rfl) ?_
   try simp only[Ja]
   have hsz2:=b2.size
   refine Zm (i:=13) (d:=some 19) (f:=140) (args:=#[.agg #[.int .i64 o.d0,.int .i64 o.d1,.int .i64 o.d2,.int .i64 o.d3,.int .i64 o.d4,.int .i64 o.d5,.int .i64 o.d6,.int .i64 o.d7]]) (w':=w2) (by kernel_rfl) rfl rfl (by rfl) (by go_simp;try rfl) ?_
   refine (Z2U o w2).mono ?_
   rintro e w4 ⟨rfl,b4⟩
   have hS4:(fun W:World=>OB w.heap.size o W) w4:=OB.below hS2 b4 (by omega)
   refine ⟨.int .i64 (Wx o.deps),rfl,fun _=>hS4,?_⟩
   try simp only[Ja]
   have HB4:Hid (Below w.heap.size w w4):=Jh ((HB1.out.trans (b2.mono (Nat.le_of_lt hsz0))).trans (b4.mono (by omega)))
   by_cases hq:o.id.n≤Wx o.deps
   ·have HR:=Jh (OpD.right_no3 hr hm hq)
    have hq1:decide (o.id.n≤Wx o.deps)=true:=decide_eq_true hq
    clear hr hm
    refine J0 17 23 (.bool true) hS4 ?_
    try simp only[Ja]
    refine J0 18 24 (.bool true) hS4 ?_
    try simp only[Ja]
    refine Z3 (by kernel_rfl) ?_ _
    go_wp2_with fail
    go_ret
    exact ⟨by rw[HR.out];rfl,HB4.out⟩
   ·have HR:=Jh (OpD.right_yes hr hm hq)
    have hq1:decide (o.id.n≤Wx o.deps)=false:=decide_eq_false hq
    clear hr hm hq
    refine J0 17 23 (.bool false) hS4 ?_
    try simp only[Ja]
    refine J0 18 24 (.bool false) hS4 ?_
    try simp only[Ja]
    refine Z3 (by kernel_rfl) ?_ _
    clear hS0 hS2
    go_upto_region 4 with fail
    have hsz4:w.heap.size<w4.heap.size:=OB.lt hS4
    have hb5:Below w.heap.size w (w4.alloc (.cells #[.int .i64 0,.int .i64 0] 62)):=HB4.out.alloc HB4.out.size _
    have ho5:OB w.heap.size o (w4.alloc (.cells #[.int .i64 0,.int .i64 0] 62)):=OB.alloc hS4 _
    have hn0:(w4.alloc (.cells #[.int .i64 0,.int .i64 0] 62)).cell? ⟨w4.heap.size,0,none⟩=some (.int .i64 0):=by go_simp
    have hn1:(w4.alloc (.cells #[.int .i64 0,.int .i64 0] 62)).cell? ⟨w4.heap.size,1,none⟩=some (.int .i64 0):=by go_simp
    have hz5:(w4.alloc (.cells #[.int .i64 0,.int .i64 0] 62)).heap.size=w4.heap.size+1:=by simp
    generalize w4.alloc (.cells #[.int .i64 0,.int .i64 0] 62)=W5 at hb5 ho5 hn0 hn1 hz5 ⊢
    have c0:=OB.cell ho5 (j:=0) rfl
    have c1:=OB.cell ho5 (j:=1) rfl
    have c2:=OB.cell ho5 (j:=2) rfl
    have c3:=OB.cell ho5 (j:=3) rfl
    have c4:=OB.cell ho5 (j:=4) rfl
    have c5:=OB.cell ho5 (j:=5) rfl
    have c6:=OB.cell ho5 (j:=6) rfl
    have c7:=OB.cell ho5 (j:=7) rfl
    have c8:=OB.cell ho5 (j:=8) rfl
    have c9:=OB.cell ho5 (j:=9) rfl
    have c10:=OB.cell ho5 (j:=10) rfl
    have hst:(Instr.storeAt 68 (.pointer (some ⟨w4.heap.size+1,0,none⟩)) (.agg o.bare.cells.toArray)).run Tryz.prog (W5.alloc (.cells #[.int .i64 0,.int .i64 0,.int .i64 0,.int .i64 0,.int .i64 0,.int .i64 0,.int .i64 0,.int .i64 0,.int .i64 0,.int .i64 0,.int .i64 0,.int .i64 0,.int .i64 0,.int .i64 0,.int .i64 0,.int .i64 0,.int .i64 0,.string { data:=#[] },.string { data:=#[] },.string { data:=#[] },.int .i64 0,.int .i64 0,.bool false,.int .i64 0,.int .i64 0,.bool false] 68))=.ok () (W5.alloc (.cells o.bare.cells.toArray 68)):=by rw[←hz5];exact WS XO rfl (OpD.len o.bare) (OpD.one o.bare)
    have HST:=Lib.hid hst
    clear hst HB4 hS4 b4 b2 HB1 hsz0 hsz2 hm1 hq1
    go_upto_region 5 with (first|((with_reducible_and_instances refine RR (o:=⟨some 32,_,_,_,_,_⟩) (x0:=.tmp 27) (x1:=.tmp 29) (x2:=.tmp 31) ?_ ?_ ?_ ?_ ?_ (Z0E o W5) ?_);rfl;rfl;rfl;rfl;rfl)|(refine Z2 (T:=68) rfl rfl rfl rfl HST.out ?_))
    have hf6:RF w w4.heap.size o o.bare (W5.alloc (.cells o.bare.cells.toArray 68)):=⟨OB.alloc ho5 _,by rw[←hz5];exact OB.new W5 o.bare,Zt hn0 _,Zt hn1 _,hb5.alloc hb5.size _⟩
    generalize W5.alloc (.cells o.bare.cells.toArray 68)=W6 at hf6 ⊢
    clear HST hb5 ho5 hn0 hn1 hz5 c0 c1 c2 c3 c4 c5 c6 c7 c8 c9 c10 W5
    generalize w4.heap.size=Bn at hf6 hsz4 ⊢
    clear w4 w2 W1
    by_cases hk:o.kind=1
    ·skip
     have k1:(o.kind == 1)=true:=by simp[hk]
     have c10:=OB.cell hf6.1 (j:=10) rfl
     have n0:=hf6.2.2.1
     have n1:=hf6.2.2.2.1
     have lo:=OB.whole hf6.1
     go_upto_region 12 with fail
     clear c10 n0 n1 lo
     go_upto_region 12 with fail
     have hf70:=RF.drew hf6
     clear hf6
     have hS0:(fun W:World=>OB w.heap.size o W) W6.drew:=hf70.1
     refine Z6 (fun W:World=>OB w.heap.size o W) (fun _=>false) (by kernel_rfl) ?_
     generalize W6.drew=V0 at hS0 hf70 ⊢
     refine J0 0 45 (.pointer (some ⟨w.heap.size,11,none⟩)) hS0 ?_
     try simp only[Ja]
     refine JR 1 46 (.agg #[.int .i64 o.ref.n,.int .i64 o.ref.r]) rfl rfl hS0 (fun W hW=>by exact Z8 rfl rfl (OB.part hW UY 11 _ rfl rfl)) ?_
     try simp only[Ja]
     refine J0 2 47 (.pointer (some ⟨w.heap.size,13,none⟩)) hS0 ?_
     try simp only[Ja]
     refine JR 3 48 (.int .i64 o.side) rfl rfl hS0 (fun W hW=>by have q0:=OB.cell hW (j:=13) rfl;go_simp;try rfl) ?_
     try simp only[Ja]
     refine J0 4 49 (.pointer (some ⟨w.heap.size,14,none⟩)) hS0 ?_
     try simp only[Ja]
     refine JR 5 50 (.int .i64 o.ch) rfl rfl hS0 (fun W hW=>by have q0:=OB.cell hW (j:=14) rfl;go_simp;try rfl) ?_
     try simp only[Ja]
     refine J0 6 51 (.pointer (some ⟨Bn+1,11,none⟩)) hS0 ?_
     try simp only[Ja]
     obtain ⟨V1,hst,hob,hxt⟩:=OB.store hf70.2.1 (T:=62) UL (off:=11) (v:=.agg #[.int .i64 o.ref.n,.int .i64 o.ref.r]) (vs:=[.int .i64 o.ref.n,.int .i64 o.ref.r]) rfl rfl (by intro u hu;simp only[List.mem_cons,List.not_mem_nil,or_false] at hu;rcases hu with rfl|rfl <;> rfl) (by omega) (o.keepR) rfl
     have hf71:=RF.ext hf70 hxt hsz4 hob
     have hS1:(fun W:World=>OB w.heap.size o W) V1:=hf71.1
     refine Zn (i:=7) (d:=none) (w':=V1) (by kernel_rfl) rfl rfl (by rfl) (Yi rfl rfl rfl hst) (fun _=>hS1) ?_
     try simp only[Ja]
     clear hst hob hxt hS0 hf70
     refine J0 8 52 (.pointer (some ⟨Bn+1,13,none⟩)) hS1 ?_
     try simp only[Ja]
     obtain ⟨V2,hst,hob,hxt⟩:=OB.store hf71.2.1 (T:=64) Z2A (off:=13) (v:=.int .i64 o.side) (vs:=[.int .i64 o.side]) rfl rfl (by intro u hu;simp only[List.mem_cons,List.not_mem_nil,or_false] at hu;rcases hu with rfl <;> rfl) (by omega) ({ o.bare with ref:=o.ref,side:=o.side }) rfl
     have hf72:=RF.ext hf71 hxt hsz4 hob
     have hS2:(fun W:World=>OB w.heap.size o W) V2:=hf72.1
     refine Zn (i:=9) (d:=none) (w':=V2) (by kernel_rfl) rfl rfl (by rfl) (Yi rfl rfl rfl hst) (fun _=>hS2) ?_
     try simp only[Ja]
     clear hst hob hxt hS1 hf71
     refine J0 10 53 (.pointer (some ⟨Bn+1,14,none⟩)) hS2 ?_
     try simp only[Ja]
     obtain ⟨V3,hst,hob,hxt⟩:=OB.store hf72.2.1 (T:=3) YE (off:=14) (v:=.int .i64 o.ch) (vs:=[.int .i64 o.ch]) rfl rfl (by intro u hu;simp only[List.mem_cons,List.not_mem_nil,or_false] at hu;rcases hu with rfl <;> rfl) (by omega) (o.keepI) rfl
     have hf73:=RF.ext hf72 hxt hsz4 hob
     have hS3:(fun W:World=>OB w.heap.size o W) V3:=hf73.1
     refine Zn (i:=11) (d:=none) (w':=V3) (by kernel_rfl) rfl rfl (by rfl) (Yi rfl rfl rfl hst) (fun _=>hS3) ?_
     try simp only[Ja]
     clear hst hob hxt hS2 hf72
     refine Z3 (by kernel_rfl) ?_ _
     clear hS3
     have hf7:=hf73
     clear hf73
     have c11:=OB.cell hf7.1 (j:=11) rfl
     have c12:=OB.cell hf7.1 (j:=12) rfl
     have c13:=OB.cell hf7.1 (j:=13) rfl
     have c14:=OB.cell hf7.1 (j:=14) rfl
     have n0:=hf7.2.2.1
     have n1:=hf7.2.2.2.1
     have lo:=OB.whole hf7.1
     go_upto_region 13 with fail
     clear c11 c12 c13 c14 n0 n1 lo
     go_cut [5] (fun bv wx=>∃ ok:Bool,bv=.bool ok∧Hid (ok=o.okI)∧RF w Bn o o.keepI wx)
     case first=>as_aux_lemma =>
      by_cases hs:o.side=2
      ·have hs2:(o.side == 2)=true:=by simp[hs]
       by_cases hn:o.ref.n=0
       ·have hn1:(o.ref.n == 0)=true:=by simp[hn]
        by_cases hq:o.ref.r=0
        ·have hq1:(o.ref.r == 0)=true:=by simp[hq]
         have HST:=Jh (Z7w hn hq)
         clear hn hq
         by_cases hc:o.ch=0
         ·have hc1:(o.ch == 0)=true:=by simp[hc]
          have c11:=OB.cell hf7.1 (j:=11) rfl
          have c12:=OB.cell hf7.1 (j:=12) rfl
          have c13:=OB.cell hf7.1 (j:=13) rfl
          have c14:=OB.cell hf7.1 (j:=14) rfl
          have n0:=hf7.2.2.1
          have n1:=hf7.2.2.2.1
          have lo:=OB.whole hf7.1
          go_wp2_with fail
          go_meet
          case rel=>exact ⟨true,rfl,Jh (by have hst:=HST.out;simp[OpD.okI,hs,hst,hc] <;> omega),hf7⟩
         ·have hc1:(o.ch == 0)=false:=by simp[hc]
          by_cases hc2:32≤o.ch
          ·by_cases hc3:o.ch≤126
           ·skip
            have c11:=OB.cell hf7.1 (j:=11) rfl
            have c12:=OB.cell hf7.1 (j:=12) rfl
            have c13:=OB.cell hf7.1 (j:=13) rfl
            have c14:=OB.cell hf7.1 (j:=14) rfl
            have n0:=hf7.2.2.1
            have n1:=hf7.2.2.2.1
            have lo:=OB.whole hf7.1
            go_wp2_with fail
            go_meet
            case rel=>exact ⟨true,rfl,Jh (by have hst:=HST.out;simp[OpD.okI,hs,hst,hc,hc2,hc3] <;> omega),hf7⟩
           ·have hc4:decide (o.ch≤126)=false:=decide_eq_false hc3
            have c11:=OB.cell hf7.1 (j:=11) rfl
            have c12:=OB.cell hf7.1 (j:=12) rfl
            have c13:=OB.cell hf7.1 (j:=13) rfl
            have c14:=OB.cell hf7.1 (j:=14) rfl
            have n0:=hf7.2.2.1
            have n1:=hf7.2.2.2.1
            have lo:=OB.whole hf7.1
            go_wp2_with fail
            go_meet
            case rel=>exact ⟨false,rfl,Jh (by have hst:=HST.out;simp[OpD.okI,hs,hst,hc,hc2,hc3] <;> omega),hf7⟩
          ·skip
           have c11:=OB.cell hf7.1 (j:=11) rfl
           have c12:=OB.cell hf7.1 (j:=12) rfl
           have c13:=OB.cell hf7.1 (j:=13) rfl
           have c14:=OB.cell hf7.1 (j:=14) rfl
           have n0:=hf7.2.2.1
           have n1:=hf7.2.2.2.1
           have lo:=OB.whole hf7.1
           go_wp2_with fail
           go_meet
           case rel=>exact ⟨false,rfl,Jh (by have hst:=HST.out;simp[OpD.okI,hs,hst,hc,hc2] <;> omega),hf7⟩
        ·have hq1:(o.ref.r == 0)=false:=by simp[hq]
         have HST:=Jh (Z6c hq)
         clear hn hq
         have c11:=OB.cell hf7.1 (j:=11) rfl
         have c12:=OB.cell hf7.1 (j:=12) rfl
         have c13:=OB.cell hf7.1 (j:=13) rfl
         have c14:=OB.cell hf7.1 (j:=14) rfl
         have n0:=hf7.2.2.1
         have n1:=hf7.2.2.2.1
         have lo:=OB.whole hf7.1
         go_wp2_with (((with_reducible_and_instances refine Z9 (o:=⟨some 64,_,_,_,_,_⟩) (v:=.agg o.cells.toArray) ?_ ?_ ?_);rfl;exact Z8 rfl rfl lo))
         refine (WI o o.ref.n o.ref.r _).mono ?_
         rintro e W8 ⟨rfl,bb⟩
         have hf8:=RF.below hf7 bb
         clear c11 c12 c13 c14 n0 n1 lo bb hf7
         cases hm:o.may ⟨o.ref.n,o.ref.r⟩ with
         | false =>
          have c11:=OB.cell hf8.1 (j:=11) rfl
          have c12:=OB.cell hf8.1 (j:=12) rfl
          have c13:=OB.cell hf8.1 (j:=13) rfl
          have c14:=OB.cell hf8.1 (j:=14) rfl
          have n0:=hf8.2.2.1
          have n1:=hf8.2.2.2.1
          have lo:=OB.whole hf8.1
          go_wp2_with fail
          go_meet
          case rel=>exact ⟨false,rfl,Jh (by have hst:=HST.out;simp[OpD.okI,hs,hst,hm] <;> omega),hf8⟩
         | true =>
          have hs1:(o.side == 1)=false:=by simp[hs]
          by_cases hc:o.ch=0
          ·have hc1:(o.ch == 0)=true:=by simp[hc]
           have c11:=OB.cell hf8.1 (j:=11) rfl
           have c12:=OB.cell hf8.1 (j:=12) rfl
           have c13:=OB.cell hf8.1 (j:=13) rfl
           have c14:=OB.cell hf8.1 (j:=14) rfl
           have n0:=hf8.2.2.1
           have n1:=hf8.2.2.2.1
           have lo:=OB.whole hf8.1
           go_wp2_with fail
           go_meet
           case rel=>exact ⟨true,rfl,Jh (by have hst:=HST.out;simp[OpD.okI,hs,hst,hm,hc] <;> omega),hf8⟩
          ·have hc1:(o.ch == 0)=false:=by simp[hc]
           by_cases hc2:32≤o.ch
           ·by_cases hc3:o.ch≤126
            ·skip
             have c11:=OB.cell hf8.1 (j:=11) rfl
             have c12:=OB.cell hf8.1 (j:=12) rfl
             have c13:=OB.cell hf8.1 (j:=13) rfl
             have c14:=OB.cell hf8.1 (j:=14) rfl
             have n0:=hf8.2.2.1
             have n1:=hf8.2.2.2.1
             have lo:=OB.whole hf8.1
             go_wp2_with fail
             go_meet
             case rel=>exact ⟨true,rfl,Jh (by have hst:=HST.out;simp[OpD.okI,hs,hst,hm,hc,hc2,hc3] <;> omega),hf8⟩
            ·have hc4:decide (o.ch≤126)=false:=decide_eq_false hc3
             have c11:=OB.cell hf8.1 (j:=11) rfl
             have c12:=OB.cell hf8.1 (j:=12) rfl
             have c13:=OB.cell hf8.1 (j:=13) rfl
             have c14:=OB.cell hf8.1 (j:=14) rfl
             have n0:=hf8.2.2.1
             have n1:=hf8.2.2.2.1
             have lo:=OB.whole hf8.1
             go_wp2_with fail
             go_meet
             case rel=>exact ⟨false,rfl,Jh (by have hst:=HST.out;simp[OpD.okI,hs,hst,hm,hc,hc2,hc3] <;> omega),hf8⟩
           ·skip
            have c11:=OB.cell hf8.1 (j:=11) rfl
            have c12:=OB.cell hf8.1 (j:=12) rfl
            have c13:=OB.cell hf8.1 (j:=13) rfl
            have c14:=OB.cell hf8.1 (j:=14) rfl
            have n0:=hf8.2.2.1
            have n1:=hf8.2.2.2.1
            have lo:=OB.whole hf8.1
            go_wp2_with fail
            go_meet
            case rel=>exact ⟨false,rfl,Jh (by have hst:=HST.out;simp[OpD.okI,hs,hst,hm,hc,hc2] <;> omega),hf8⟩
       ·have hn1:(o.ref.n == 0)=false:=by simp[hn]
        have HST:=Jh (Z65 hn)
        clear hn
        have c11:=OB.cell hf7.1 (j:=11) rfl
        have c12:=OB.cell hf7.1 (j:=12) rfl
        have c13:=OB.cell hf7.1 (j:=13) rfl
        have c14:=OB.cell hf7.1 (j:=14) rfl
        have n0:=hf7.2.2.1
        have n1:=hf7.2.2.2.1
        have lo:=OB.whole hf7.1
        go_wp2_with (((with_reducible_and_instances refine Z9 (o:=⟨some 64,_,_,_,_,_⟩) (v:=.agg o.cells.toArray) ?_ ?_ ?_);rfl;exact Z8 rfl rfl lo))
        refine (WI o o.ref.n o.ref.r _).mono ?_
        rintro e W8 ⟨rfl,bb⟩
        have hf8:=RF.below hf7 bb
        clear c11 c12 c13 c14 n0 n1 lo bb hf7
        cases hm:o.may ⟨o.ref.n,o.ref.r⟩ with
        | false =>
         have c11:=OB.cell hf8.1 (j:=11) rfl
         have c12:=OB.cell hf8.1 (j:=12) rfl
         have c13:=OB.cell hf8.1 (j:=13) rfl
         have c14:=OB.cell hf8.1 (j:=14) rfl
         have n0:=hf8.2.2.1
         have n1:=hf8.2.2.2.1
         have lo:=OB.whole hf8.1
         go_wp2_with fail
         go_meet
         case rel=>exact ⟨false,rfl,Jh (by have hst:=HST.out;simp[OpD.okI,hs,hst,hm] <;> omega),hf8⟩
        | true =>
         have hs1:(o.side == 1)=false:=by simp[hs]
         by_cases hc:o.ch=0
         ·have hc1:(o.ch == 0)=true:=by simp[hc]
          have c11:=OB.cell hf8.1 (j:=11) rfl
          have c12:=OB.cell hf8.1 (j:=12) rfl
          have c13:=OB.cell hf8.1 (j:=13) rfl
          have c14:=OB.cell hf8.1 (j:=14) rfl
          have n0:=hf8.2.2.1
          have n1:=hf8.2.2.2.1
          have lo:=OB.whole hf8.1
          go_wp2_with fail
          go_meet
          case rel=>exact ⟨true,rfl,Jh (by have hst:=HST.out;simp[OpD.okI,hs,hst,hm,hc] <;> omega),hf8⟩
         ·have hc1:(o.ch == 0)=false:=by simp[hc]
          by_cases hc2:32≤o.ch
          ·by_cases hc3:o.ch≤126
           ·skip
            have c11:=OB.cell hf8.1 (j:=11) rfl
            have c12:=OB.cell hf8.1 (j:=12) rfl
            have c13:=OB.cell hf8.1 (j:=13) rfl
            have c14:=OB.cell hf8.1 (j:=14) rfl
            have n0:=hf8.2.2.1
            have n1:=hf8.2.2.2.1
            have lo:=OB.whole hf8.1
            go_wp2_with fail
            go_meet
            case rel=>exact ⟨true,rfl,Jh (by have hst:=HST.out;simp[OpD.okI,hs,hst,hm,hc,hc2,hc3] <;> omega),hf8⟩
           ·have hc4:decide (o.ch≤126)=false:=decide_eq_false hc3
            have c11:=OB.cell hf8.1 (j:=11) rfl
            have c12:=OB.cell hf8.1 (j:=12) rfl
            have c13:=OB.cell hf8.1 (j:=13) rfl
            have c14:=OB.cell hf8.1 (j:=14) rfl
            have n0:=hf8.2.2.1
            have n1:=hf8.2.2.2.1
            have lo:=OB.whole hf8.1
            go_wp2_with fail
            go_meet
            case rel=>exact ⟨false,rfl,Jh (by have hst:=HST.out;simp[OpD.okI,hs,hst,hm,hc,hc2,hc3] <;> omega),hf8⟩
          ·skip
           have c11:=OB.cell hf8.1 (j:=11) rfl
           have c12:=OB.cell hf8.1 (j:=12) rfl
           have c13:=OB.cell hf8.1 (j:=13) rfl
           have c14:=OB.cell hf8.1 (j:=14) rfl
           have n0:=hf8.2.2.1
           have n1:=hf8.2.2.2.1
           have lo:=OB.whole hf8.1
           go_wp2_with fail
           go_meet
           case rel=>exact ⟨false,rfl,Jh (by have hst:=HST.out;simp[OpD.okI,hs,hst,hm,hc,hc2] <;> omega),hf8⟩
      ·have hs2:(o.side == 2)=false:=by simp[hs]
       have HST:Hid True:=Lib.hid trivial
       have c11:=OB.cell hf7.1 (j:=11) rfl
       have c12:=OB.cell hf7.1 (j:=12) rfl
       have c13:=OB.cell hf7.1 (j:=13) rfl
       have c14:=OB.cell hf7.1 (j:=14) rfl
       have n0:=hf7.2.2.1
       have n1:=hf7.2.2.2.1
       have lo:=OB.whole hf7.1
       go_wp2_with (((with_reducible_and_instances refine Z9 (o:=⟨some 64,_,_,_,_,_⟩) (v:=.agg o.cells.toArray) ?_ ?_ ?_);rfl;exact Z8 rfl rfl lo))
       refine (WI o o.ref.n o.ref.r _).mono ?_
       rintro e W8 ⟨rfl,bb⟩
       have hf8:=RF.below hf7 bb
       clear c11 c12 c13 c14 n0 n1 lo bb hf7
       cases hm:o.may ⟨o.ref.n,o.ref.r⟩ with
       | false =>
        have c11:=OB.cell hf8.1 (j:=11) rfl
        have c12:=OB.cell hf8.1 (j:=12) rfl
        have c13:=OB.cell hf8.1 (j:=13) rfl
        have c14:=OB.cell hf8.1 (j:=14) rfl
        have n0:=hf8.2.2.1
        have n1:=hf8.2.2.2.1
        have lo:=OB.whole hf8.1
        go_wp2_with fail
        go_meet
        case rel=>exact ⟨false,rfl,Jh (by have hst:=HST.out;simp[OpD.okI,hs,hm] <;> omega),hf8⟩
       | true =>
        by_cases ht:o.side=1
        ·have hs1:(o.side == 1)=true:=by simp[ht]
         by_cases hc:o.ch=0
         ·have hc1:(o.ch == 0)=true:=by simp[hc]
          have c11:=OB.cell hf8.1 (j:=11) rfl
          have c12:=OB.cell hf8.1 (j:=12) rfl
          have c13:=OB.cell hf8.1 (j:=13) rfl
          have c14:=OB.cell hf8.1 (j:=14) rfl
          have n0:=hf8.2.2.1
          have n1:=hf8.2.2.2.1
          have lo:=OB.whole hf8.1
          go_wp2_with fail
          go_meet
          case rel=>exact ⟨true,rfl,Jh (by have hst:=HST.out;simp[OpD.okI,hs,hm,ht,hc] <;> omega),hf8⟩
         ·have hc1:(o.ch == 0)=false:=by simp[hc]
          by_cases hc2:32≤o.ch
          ·by_cases hc3:o.ch≤126
           ·skip
            have c11:=OB.cell hf8.1 (j:=11) rfl
            have c12:=OB.cell hf8.1 (j:=12) rfl
            have c13:=OB.cell hf8.1 (j:=13) rfl
            have c14:=OB.cell hf8.1 (j:=14) rfl
            have n0:=hf8.2.2.1
            have n1:=hf8.2.2.2.1
            have lo:=OB.whole hf8.1
            go_wp2_with fail
            go_meet
            case rel=>exact ⟨true,rfl,Jh (by have hst:=HST.out;simp[OpD.okI,hs,hm,ht,hc,hc2,hc3] <;> omega),hf8⟩
           ·have hc4:decide (o.ch≤126)=false:=decide_eq_false hc3
            have c11:=OB.cell hf8.1 (j:=11) rfl
            have c12:=OB.cell hf8.1 (j:=12) rfl
            have c13:=OB.cell hf8.1 (j:=13) rfl
            have c14:=OB.cell hf8.1 (j:=14) rfl
            have n0:=hf8.2.2.1
            have n1:=hf8.2.2.2.1
            have lo:=OB.whole hf8.1
            go_wp2_with fail
            go_meet
            case rel=>exact ⟨false,rfl,Jh (by have hst:=HST.out;simp[OpD.okI,hs,hm,ht,hc,hc2,hc3] <;> omega),hf8⟩
          ·skip
           have c11:=OB.cell hf8.1 (j:=11) rfl
           have c12:=OB.cell hf8.1 (j:=12) rfl
           have c13:=OB.cell hf8.1 (j:=13) rfl
           have c14:=OB.cell hf8.1 (j:=14) rfl
           have n0:=hf8.2.2.1
           have n1:=hf8.2.2.2.1
           have lo:=OB.whole hf8.1
           go_wp2_with fail
           go_meet
           case rel=>exact ⟨false,rfl,Jh (by have hst:=HST.out;simp[OpD.okI,hs,hm,ht,hc,hc2] <;> omega),hf8⟩
        ·have hs1:(o.side == 1)=false:=by simp[ht]
         have c11:=OB.cell hf8.1 (j:=11) rfl
         have c12:=OB.cell hf8.1 (j:=12) rfl
         have c13:=OB.cell hf8.1 (j:=13) rfl
         have c14:=OB.cell hf8.1 (j:=14) rfl
         have n0:=hf8.2.2.1
         have n1:=hf8.2.2.2.1
         have lo:=OB.whole hf8.1
         go_wp2_with fail
         go_meet
         case rel=>exact ⟨false,rfl,Jh (by have hst:=HST.out;simp[OpD.okI,hs,hm,ht] <;> omega),hf8⟩
     case rest =>
      obtain ⟨ok,rfl,hok,hf9⟩:=hcut
      cases ok with
      | false =>
       have HV:Hid (o.right=false):=Jh (by rw[HR.out,Z0I hk,←hok.out];rfl)
       have HB:Hid (Below w.heap.size w _):=Lib.hid hf9.2.2.2.2
       have c11:=OB.cell hf9.1 (j:=11) rfl
       have c12:=OB.cell hf9.1 (j:=12) rfl
       have c13:=OB.cell hf9.1 (j:=13) rfl
       have c14:=OB.cell hf9.1 (j:=14) rfl
       have n0:=hf9.2.2.1
       have n1:=hf9.2.2.2.1
       have lo:=OB.whole hf9.1
       go_wp2_with fail
       go_ret
       exact ⟨by rw[HV.out];rfl,HB.out⟩
      | true =>
       obtain ⟨eb,heb⟩:∃ eb,eb=decide (o.keepI=o):=⟨_,rfl⟩
       have HV:Hid (o.right=eb):=Jh (by rw[HR.out,Z0I hk,←hok.out,heb];rfl)
       have HB:Hid (Below w.heap.size w _):=Lib.hid hf9.2.2.2.2
       have lx:=OB.whole hf9.2.1
       have heq:=fun W=>Xr (o.keepI) o W
       unfold OpD.val at heq
       rw[←heb] at heq
       clear heb
       have c11:=OB.cell hf9.1 (j:=11) rfl
       have c12:=OB.cell hf9.1 (j:=12) rfl
       have c13:=OB.cell hf9.1 (j:=13) rfl
       have c14:=OB.cell hf9.1 (j:=14) rfl
       have n0:=hf9.2.2.1
       have n1:=hf9.2.2.2.1
       have lo:=OB.whole hf9.1
       go_wp2_with (first|((with_reducible_and_instances refine Z9 (o:=⟨some 187,_,_,_,_,_⟩) (v:=.agg (o.keepI).cells.toArray) ?_ ?_ ?_);rfl;exact Z8 rfl rfl lx)|((with_reducible_and_instances refine Z9 (o:=⟨some 188,_,_,_,_,_⟩) (v:=.agg o.cells.toArray) ?_ ?_ ?_);rfl;exact Z8 rfl rfl lo))
       go_ret
       exact ⟨by rw[HV.out];rfl,HB.out⟩
    ·have h1:=hk
     skip
     by_cases hk:o.kind=2
     ·skip
      have k1:(o.kind == 1)=false:=by simp[hk]
      have k2:(o.kind == 2)=true:=by simp[hk]
      have c10:=OB.cell hf6.1 (j:=10) rfl
      have n0:=hf6.2.2.1
      have n1:=hf6.2.2.2.1
      have lo:=OB.whole hf6.1
      go_upto_region 14 with fail
      clear c10 n0 n1 lo
      obtain ⟨W7,hst,hob,hxt⟩:=OB.store hf6.2.1 (T:=62) UL (off:=11) (v:=.agg #[.int .i64 o.ref.n,.int .i64 o.ref.r]) (vs:=[.int .i64 o.ref.n,.int .i64 o.ref.r]) rfl rfl (by intro u hu;simp only[List.mem_cons,List.not_mem_nil,or_false] at hu;rcases hu with rfl|rfl <;> rfl) (by omega) (o.keepR) rfl
      have hf7:=RF.ext hf6 hxt hsz4 hob
      have c11:=OB.cell hf6.1 (j:=11) rfl
      have c12:=OB.cell hf6.1 (j:=12) rfl
      have n0:=hf6.2.2.1
      have n1:=hf6.2.2.2.1
      have lo:=OB.whole hf6.1
      clear hxt hob hf6
      go_upto_region 15 with (refine Z2 rfl rfl rfl rfl hst ?_)
      clear c11 c12 n0 n1 lo hst
      have c11:=OB.cell hf7.1 (j:=11) rfl
      have c12:=OB.cell hf7.1 (j:=12) rfl
      have n0:=hf7.2.2.1
      have n1:=hf7.2.2.2.1
      have lo:=OB.whole hf7.1
      go_wp2_with (((with_reducible_and_instances refine Z9 (o:=⟨some 97,_,_,_,_,_⟩) (v:=.agg o.cells.toArray) ?_ ?_ ?_);rfl;exact Z8 rfl rfl lo))
      refine (WI o o.ref.n o.ref.r _).mono ?_
      rintro e W8 ⟨rfl,bb⟩
      have hf8:=RF.below hf7 bb
      clear c11 c12 n0 n1 lo bb hf7
      cases hm:o.may ⟨o.ref.n,o.ref.r⟩ with
      | false =>
       have HV:Hid (o.right=false):=Jh (by rw[HR.out,Z0Z hk];simp[hm])
       have HB:Hid (Below w.heap.size w _):=Lib.hid hf8.2.2.2.2
       go_wp2_with fail
       go_ret
       exact ⟨by rw[HV.out];rfl,HB.out⟩
      | true =>
       obtain ⟨eb,heb⟩:∃ eb,eb=decide (o.keepR=o):=⟨_,rfl⟩
       have HV:Hid (o.right=eb):=Jh (by rw[HR.out,Z0Z hk,heb];simp[hm])
       have HB:Hid (Below w.heap.size w _):=Lib.hid hf8.2.2.2.2
       have lx:=OB.whole hf8.2.1
       have heq:=fun W=>Xr (o.keepR) o W
       unfold OpD.val at heq
       rw[←heb] at heq
       clear heb
       have c11:=OB.cell hf8.1 (j:=11) rfl
       have c12:=OB.cell hf8.1 (j:=12) rfl
       have n0:=hf8.2.2.1
       have n1:=hf8.2.2.2.1
       have lo:=OB.whole hf8.1
       go_wp2_with (first|((with_reducible_and_instances refine Z9 (o:=⟨some 187,_,_,_,_,_⟩) (v:=.agg (o.keepR).cells.toArray) ?_ ?_ ?_);rfl;exact Z8 rfl rfl lx)|((with_reducible_and_instances refine Z9 (o:=⟨some 188,_,_,_,_,_⟩) (v:=.agg o.cells.toArray) ?_ ?_ ?_);rfl;exact Z8 rfl rfl lo))
       go_ret
       exact ⟨by rw[HV.out];rfl,HB.out⟩
     ·have h2:=hk
      skip
      by_cases hk:o.kind=3
      ·skip
       have k1:(o.kind == 1)=false:=by simp[hk]
       have k2:(o.kind == 2)=false:=by simp[hk]
       have k3:(o.kind == 3)=true:=by simp[hk]
       have c10:=OB.cell hf6.1 (j:=10) rfl
       have n0:=hf6.2.2.1
       have n1:=hf6.2.2.2.1
       have lo:=OB.whole hf6.1
       go_upto_region 16 with fail
       clear c10 n0 n1 lo
       go_upto_region 16 with fail
       have hf70:=RF.drew hf6
       clear hf6
       have hS0:(fun W:World=>OB w.heap.size o W) W6.drew:=hf70.1
       refine Z6 (fun W:World=>OB w.heap.size o W) (fun _=>false) (by kernel_rfl) ?_
       generalize W6.drew=V0 at hS0 hf70 ⊢
       refine J0 0 101 (.pointer (some ⟨w.heap.size,11,none⟩)) hS0 ?_
       try simp only[Ja]
       refine JR 1 102 (.agg #[.int .i64 o.ref.n,.int .i64 o.ref.r]) rfl rfl hS0 (fun W hW=>by exact Z8 rfl rfl (OB.part hW UY 11 _ rfl rfl)) ?_
       try simp only[Ja]
       refine J0 2 103 (.pointer (some ⟨w.heap.size,15,none⟩)) hS0 ?_
       try simp only[Ja]
       refine JR 3 104 (.agg #[.int .i64 o.under.n,.int .i64 o.under.r]) rfl rfl hS0 (fun W hW=>by exact Z8 rfl rfl (OB.part hW UY 15 _ rfl rfl)) ?_
       try simp only[Ja]
       refine J0 4 105 (.pointer (some ⟨w.heap.size,17,none⟩)) hS0 ?_
       try simp only[Ja]
       refine JR 5 106 (.string o.key) rfl rfl hS0 (fun W hW=>by have q0:=OB.cell hW (j:=17) rfl;go_simp;try rfl) ?_
       try simp only[Ja]
       refine J0 6 107 (.pointer (some ⟨Bn+1,11,none⟩)) hS0 ?_
       try simp only[Ja]
       obtain ⟨V1,hst,hob,hxt⟩:=OB.store hf70.2.1 (T:=62) UL (off:=11) (v:=.agg #[.int .i64 o.ref.n,.int .i64 o.ref.r]) (vs:=[.int .i64 o.ref.n,.int .i64 o.ref.r]) rfl rfl (by intro u hu;simp only[List.mem_cons,List.not_mem_nil,or_false] at hu;rcases hu with rfl|rfl <;> rfl) (by omega) (o.keepR) rfl
       have hf71:=RF.ext hf70 hxt hsz4 hob
       have hS1:(fun W:World=>OB w.heap.size o W) V1:=hf71.1
       refine Zn (i:=7) (d:=none) (w':=V1) (by kernel_rfl) rfl rfl (by rfl) (Yi rfl rfl rfl hst) (fun _=>hS1) ?_
       try simp only[Ja]
       clear hst hob hxt hS0 hf70
       refine J0 8 108 (.pointer (some ⟨Bn+1,15,none⟩)) hS1 ?_
       try simp only[Ja]
       obtain ⟨V2,hst,hob,hxt⟩:=OB.store hf71.2.1 (T:=62) UL (off:=15) (v:=.agg #[.int .i64 o.under.n,.int .i64 o.under.r]) (vs:=[.int .i64 o.under.n,.int .i64 o.under.r]) rfl rfl (by intro u hu;simp only[List.mem_cons,List.not_mem_nil,or_false] at hu;rcases hu with rfl|rfl <;> rfl) (by omega) ({ o.bare with ref:=o.ref,under:=o.under }) rfl
       have hf72:=RF.ext hf71 hxt hsz4 hob
       have hS2:(fun W:World=>OB w.heap.size o W) V2:=hf72.1
       refine Zn (i:=9) (d:=none) (w':=V2) (by kernel_rfl) rfl rfl (by rfl) (Yi rfl rfl rfl hst) (fun _=>hS2) ?_
       try simp only[Ja]
       clear hst hob hxt hS1 hf71
       refine J0 10 109 (.pointer (some ⟨Bn+1,17,none⟩)) hS2 ?_
       try simp only[Ja]
       obtain ⟨V3,hst,hob,hxt⟩:=OB.store hf72.2.1 (T:=9) S0 (off:=17) (v:=.string o.key) (vs:=[.string o.key]) rfl rfl (by intro u hu;simp only[List.mem_cons,List.not_mem_nil,or_false] at hu;rcases hu with rfl <;> rfl) (by omega) (o.keepM) rfl
       have hf73:=RF.ext hf72 hxt hsz4 hob
       have hS3:(fun W:World=>OB w.heap.size o W) V3:=hf73.1
       refine Zn (i:=11) (d:=none) (w':=V3) (by kernel_rfl) rfl rfl (by rfl) (Yi rfl rfl rfl hst) (fun _=>hS3) ?_
       try simp only[Ja]
       clear hst hob hxt hS2 hf72
       refine Z3 (by kernel_rfl) ?_ _
       clear hS3
       have hf7:=hf73
       clear hf73
       have c11:=OB.cell hf7.1 (j:=11) rfl
       have c12:=OB.cell hf7.1 (j:=12) rfl
       have c15:=OB.cell hf7.1 (j:=15) rfl
       have c16:=OB.cell hf7.1 (j:=16) rfl
       have c17:=OB.cell hf7.1 (j:=17) rfl
       have n0:=hf7.2.2.1
       have n1:=hf7.2.2.2.1
       have lo:=OB.whole hf7.1
       go_upto_region 17 with fail
       clear c11 c12 c15 c16 c17 n0 n1 lo
       go_cut [5] (fun bv wx=>∃ ok:Bool,bv=.bool ok∧Hid (ok=o.okM)∧RF w Bn o o.keepM wx)
       case first=>as_aux_lemma =>
        have c11:=OB.cell hf7.1 (j:=11) rfl
        have c12:=OB.cell hf7.1 (j:=12) rfl
        have c15:=OB.cell hf7.1 (j:=15) rfl
        have c16:=OB.cell hf7.1 (j:=16) rfl
        have c17:=OB.cell hf7.1 (j:=17) rfl
        have n0:=hf7.2.2.1
        have n1:=hf7.2.2.2.1
        have lo:=OB.whole hf7.1
        go_wp2_with (((with_reducible_and_instances refine Z9 (o:=⟨some 110,_,_,_,_,_⟩) (v:=.agg o.cells.toArray) ?_ ?_ ?_);rfl;exact Z8 rfl rfl lo))
        refine (WI o o.ref.n o.ref.r _).mono ?_
        rintro e W8 ⟨rfl,bb⟩
        have hf8:=RF.below hf7 bb
        clear c11 c12 c15 c16 c17 n0 n1 lo bb hf7
        cases hm:o.may ⟨o.ref.n,o.ref.r⟩ with
        | false =>
         have HST:Hid True:=Lib.hid trivial
         have c11:=OB.cell hf8.1 (j:=11) rfl
         have c12:=OB.cell hf8.1 (j:=12) rfl
         have c15:=OB.cell hf8.1 (j:=15) rfl
         have c16:=OB.cell hf8.1 (j:=16) rfl
         have c17:=OB.cell hf8.1 (j:=17) rfl
         have n0:=hf8.2.2.1
         have n1:=hf8.2.2.2.1
         have lo:=OB.whole hf8.1
         go_wp2_with fail
         go_meet
         case rel=>exact ⟨false,rfl,Jh (by have hst:=HST.out;simp[OpD.okM,hm] <;> omega),hf8⟩
        | true =>
         by_cases hn:o.under.n=0
         ·have hn1:(o.under.n == 0)=true:=by simp[hn]
          by_cases hq:o.under.r=0
          ·have hq1:(o.under.r == 0)=true:=by simp[hq]
           have HST:=Jh (Z7w hn hq)
           clear hn hq
           by_cases e1:o.under.n=o.ref.n
           ·have f1:(o.under.n == o.ref.n)=true:=by simp[e1]
            by_cases e2:o.under.r=o.ref.r
            ·have f2:(o.under.r == o.ref.r)=true:=by simp[e2]
             have HSE:=Jh (Z3y e1 e2)
             clear e1 e2
             have c11:=OB.cell hf8.1 (j:=11) rfl
             have c12:=OB.cell hf8.1 (j:=12) rfl
             have c15:=OB.cell hf8.1 (j:=15) rfl
             have c16:=OB.cell hf8.1 (j:=16) rfl
             have c17:=OB.cell hf8.1 (j:=17) rfl
             have n0:=hf8.2.2.1
             have n1:=hf8.2.2.2.1
             have lo:=OB.whole hf8.1
             go_wp2_with fail
             go_meet
             case rel=>exact ⟨false,rfl,Jh (by unfold OpD.okM;rw[decide_eq_true HSE.out];simp),hf8⟩
            ·have f2:(o.under.r == o.ref.r)=false:=by simp[e2]
             have HSE:=Jh (Z0M e2)
             clear e1
             have c11:=OB.cell hf8.1 (j:=11) rfl
             have c12:=OB.cell hf8.1 (j:=12) rfl
             have c15:=OB.cell hf8.1 (j:=15) rfl
             have c16:=OB.cell hf8.1 (j:=16) rfl
             have c17:=OB.cell hf8.1 (j:=17) rfl
             have n0:=hf8.2.2.1
             have n1:=hf8.2.2.2.1
             have lo:=OB.whole hf8.1
             go_wp2_with fail
             refine (UH o.key _ HFIT.out.1).mono ?_
             rintro e W10 ⟨rfl,bb⟩
             have hf10:=RF.below hf8 bb
             clear c11 c12 c15 c16 c17 n0 n1 lo bb hf8
             cases hky:YS o.key with
             | false =>
              have c11:=OB.cell hf10.1 (j:=11) rfl
              have c12:=OB.cell hf10.1 (j:=12) rfl
              have c15:=OB.cell hf10.1 (j:=15) rfl
              have c16:=OB.cell hf10.1 (j:=16) rfl
              have c17:=OB.cell hf10.1 (j:=17) rfl
              have n0:=hf10.2.2.1
              have n1:=hf10.2.2.2.1
              have lo:=OB.whole hf10.1
              go_wp2_with fail
              go_meet
              case rel=>exact ⟨false,rfl,Jh (by have hm':o.may o.ref=true:=hm;have hst':=decide_eq_true HST.out;have hse':=decide_eq_false HSE.out;unfold OpD.okM;rw[hm',hst',hse',hky];rfl),hf10⟩
             | true =>
              have c11:=OB.cell hf10.1 (j:=11) rfl
              have c12:=OB.cell hf10.1 (j:=12) rfl
              have c15:=OB.cell hf10.1 (j:=15) rfl
              have c16:=OB.cell hf10.1 (j:=16) rfl
              have c17:=OB.cell hf10.1 (j:=17) rfl
              have n0:=hf10.2.2.1
              have n1:=hf10.2.2.2.1
              have lo:=OB.whole hf10.1
              go_wp2_with fail
              go_meet
              case rel=>exact ⟨true,rfl,Jh (by have hm':o.may o.ref=true:=hm;have hst':=decide_eq_true HST.out;have hse':=decide_eq_false HSE.out;unfold OpD.okM;rw[hm',hst',hse',hky];rfl),hf10⟩
           ·have f1:(o.under.n == o.ref.n)=false:=by simp[e1]
            have HSE:=Jh (Z0T e1)
            have c11:=OB.cell hf8.1 (j:=11) rfl
            have c12:=OB.cell hf8.1 (j:=12) rfl
            have c15:=OB.cell hf8.1 (j:=15) rfl
            have c16:=OB.cell hf8.1 (j:=16) rfl
            have c17:=OB.cell hf8.1 (j:=17) rfl
            have n0:=hf8.2.2.1
            have n1:=hf8.2.2.2.1
            have lo:=OB.whole hf8.1
            go_wp2_with fail
            refine (UH o.key _ HFIT.out.1).mono ?_
            rintro e W10 ⟨rfl,bb⟩
            have hf10:=RF.below hf8 bb
            clear c11 c12 c15 c16 c17 n0 n1 lo bb hf8
            cases hky:YS o.key with
            | false =>
             have c11:=OB.cell hf10.1 (j:=11) rfl
             have c12:=OB.cell hf10.1 (j:=12) rfl
             have c15:=OB.cell hf10.1 (j:=15) rfl
             have c16:=OB.cell hf10.1 (j:=16) rfl
             have c17:=OB.cell hf10.1 (j:=17) rfl
             have n0:=hf10.2.2.1
             have n1:=hf10.2.2.2.1
             have lo:=OB.whole hf10.1
             go_wp2_with fail
             go_meet
             case rel=>exact ⟨false,rfl,Jh (by have hm':o.may o.ref=true:=hm;have hst':=decide_eq_true HST.out;have hse':=decide_eq_false HSE.out;unfold OpD.okM;rw[hm',hst',hse',hky];rfl),hf10⟩
            | true =>
             have c11:=OB.cell hf10.1 (j:=11) rfl
             have c12:=OB.cell hf10.1 (j:=12) rfl
             have c15:=OB.cell hf10.1 (j:=15) rfl
             have c16:=OB.cell hf10.1 (j:=16) rfl
             have c17:=OB.cell hf10.1 (j:=17) rfl
             have n0:=hf10.2.2.1
             have n1:=hf10.2.2.2.1
             have lo:=OB.whole hf10.1
             go_wp2_with fail
             go_meet
             case rel=>exact ⟨true,rfl,Jh (by have hm':o.may o.ref=true:=hm;have hst':=decide_eq_true HST.out;have hse':=decide_eq_false HSE.out;unfold OpD.okM;rw[hm',hst',hse',hky];rfl),hf10⟩
          ·have hq1:(o.under.r == 0)=false:=by simp[hq]
           have HST:=Jh (Z6c hq)
           clear hn hq
           have c11:=OB.cell hf8.1 (j:=11) rfl
           have c12:=OB.cell hf8.1 (j:=12) rfl
           have c15:=OB.cell hf8.1 (j:=15) rfl
           have c16:=OB.cell hf8.1 (j:=16) rfl
           have c17:=OB.cell hf8.1 (j:=17) rfl
           have n0:=hf8.2.2.1
           have n1:=hf8.2.2.2.1
           have lo:=OB.whole hf8.1
           go_wp2_with (((with_reducible_and_instances refine Z9 (o:=⟨some 120,_,_,_,_,_⟩) (v:=.agg o.cells.toArray) ?_ ?_ ?_);rfl;exact Z8 rfl rfl lo))
           refine (WI o o.under.n o.under.r _).mono ?_
           rintro e W9 ⟨rfl,bb⟩
           have hf9:=RF.below hf8 bb
           clear c11 c12 c15 c16 c17 n0 n1 lo bb hf8
           cases hu:o.may ⟨o.under.n,o.under.r⟩ with
           | false =>
            have c11:=OB.cell hf9.1 (j:=11) rfl
            have c12:=OB.cell hf9.1 (j:=12) rfl
            have c15:=OB.cell hf9.1 (j:=15) rfl
            have c16:=OB.cell hf9.1 (j:=16) rfl
            have c17:=OB.cell hf9.1 (j:=17) rfl
            have n0:=hf9.2.2.1
            have n1:=hf9.2.2.2.1
            have lo:=OB.whole hf9.1
            go_wp2_with fail
            go_meet
            case rel=>exact ⟨false,rfl,Jh (by have hst:=HST.out;simp[OpD.okM,hm,hst,hu] <;> omega),hf9⟩
           | true =>
            by_cases e1:o.under.n=o.ref.n
            ·have f1:(o.under.n == o.ref.n)=true:=by simp[e1]
             by_cases e2:o.under.r=o.ref.r
             ·have f2:(o.under.r == o.ref.r)=true:=by simp[e2]
              have HSE:=Jh (Z3y e1 e2)
              clear e1 e2
              have c11:=OB.cell hf9.1 (j:=11) rfl
              have c12:=OB.cell hf9.1 (j:=12) rfl
              have c15:=OB.cell hf9.1 (j:=15) rfl
              have c16:=OB.cell hf9.1 (j:=16) rfl
              have c17:=OB.cell hf9.1 (j:=17) rfl
              have n0:=hf9.2.2.1
              have n1:=hf9.2.2.2.1
              have lo:=OB.whole hf9.1
              go_wp2_with fail
              go_meet
              case rel=>exact ⟨false,rfl,Jh (by unfold OpD.okM;rw[decide_eq_true HSE.out];simp),hf9⟩
             ·have f2:(o.under.r == o.ref.r)=false:=by simp[e2]
              have HSE:=Jh (Z0M e2)
              clear e1
              have c11:=OB.cell hf9.1 (j:=11) rfl
              have c12:=OB.cell hf9.1 (j:=12) rfl
              have c15:=OB.cell hf9.1 (j:=15) rfl
              have c16:=OB.cell hf9.1 (j:=16) rfl
              have c17:=OB.cell hf9.1 (j:=17) rfl
              have n0:=hf9.2.2.1
              have n1:=hf9.2.2.2.1
              have lo:=OB.whole hf9.1
              go_wp2_with fail
              refine (UH o.key _ HFIT.out.1).mono ?_
              rintro e W10 ⟨rfl,bb⟩
              have hf10:=RF.below hf9 bb
              clear c11 c12 c15 c16 c17 n0 n1 lo bb hf9
              cases hky:YS o.key with
              | false =>
               have c11:=OB.cell hf10.1 (j:=11) rfl
               have c12:=OB.cell hf10.1 (j:=12) rfl
               have c15:=OB.cell hf10.1 (j:=15) rfl
               have c16:=OB.cell hf10.1 (j:=16) rfl
               have c17:=OB.cell hf10.1 (j:=17) rfl
               have n0:=hf10.2.2.1
               have n1:=hf10.2.2.2.1
               have lo:=OB.whole hf10.1
               go_wp2_with fail
               go_meet
               case rel=>exact ⟨false,rfl,Jh (by have hm':o.may o.ref=true:=hm;have hu':o.may o.under=true:=hu;have hst':=decide_eq_false HST.out;have hse':=decide_eq_false HSE.out;unfold OpD.okM;rw[hm',hst',hu',hse',hky];rfl),hf10⟩
              | true =>
               have c11:=OB.cell hf10.1 (j:=11) rfl
               have c12:=OB.cell hf10.1 (j:=12) rfl
               have c15:=OB.cell hf10.1 (j:=15) rfl
               have c16:=OB.cell hf10.1 (j:=16) rfl
               have c17:=OB.cell hf10.1 (j:=17) rfl
               have n0:=hf10.2.2.1
               have n1:=hf10.2.2.2.1
               have lo:=OB.whole hf10.1
               go_wp2_with fail
               go_meet
               case rel=>exact ⟨true,rfl,Jh (by have hm':o.may o.ref=true:=hm;have hu':o.may o.under=true:=hu;have hst':=decide_eq_false HST.out;have hse':=decide_eq_false HSE.out;unfold OpD.okM;rw[hm',hst',hu',hse',hky];rfl),hf10⟩
            ·have f1:(o.under.n == o.ref.n)=false:=by simp[e1]
             have HSE:=Jh (Z0T e1)
             have c11:=OB.cell hf9.1 (j:=11) rfl
             have c12:=OB.cell hf9.1 (j:=12) rfl
             have c15:=OB.cell hf9.1 (j:=15) rfl
             have c16:=OB.cell hf9.1 (j:=16) rfl
             have c17:=OB.cell hf9.1 (j:=17) rfl
             have n0:=hf9.2.2.1
             have n1:=hf9.2.2.2.1
             have lo:=OB.whole hf9.1
             go_wp2_with fail
             refine (UH o.key _ HFIT.out.1).mono ?_
             rintro e W10 ⟨rfl,bb⟩
             have hf10:=RF.below hf9 bb
             clear c11 c12 c15 c16 c17 n0 n1 lo bb hf9
             cases hky:YS o.key with
             | false =>
              have c11:=OB.cell hf10.1 (j:=11) rfl
              have c12:=OB.cell hf10.1 (j:=12) rfl
              have c15:=OB.cell hf10.1 (j:=15) rfl
              have c16:=OB.cell hf10.1 (j:=16) rfl
              have c17:=OB.cell hf10.1 (j:=17) rfl
              have n0:=hf10.2.2.1
              have n1:=hf10.2.2.2.1
              have lo:=OB.whole hf10.1
              go_wp2_with fail
              go_meet
              case rel=>exact ⟨false,rfl,Jh (by have hm':o.may o.ref=true:=hm;have hu':o.may o.under=true:=hu;have hst':=decide_eq_false HST.out;have hse':=decide_eq_false HSE.out;unfold OpD.okM;rw[hm',hst',hu',hse',hky];rfl),hf10⟩
             | true =>
              have c11:=OB.cell hf10.1 (j:=11) rfl
              have c12:=OB.cell hf10.1 (j:=12) rfl
              have c15:=OB.cell hf10.1 (j:=15) rfl
              have c16:=OB.cell hf10.1 (j:=16) rfl
              have c17:=OB.cell hf10.1 (j:=17) rfl
              have n0:=hf10.2.2.1
              have n1:=hf10.2.2.2.1
              have lo:=OB.whole hf10.1
              go_wp2_with fail
              go_meet
              case rel=>exact ⟨true,rfl,Jh (by have hm':o.may o.ref=true:=hm;have hu':o.may o.under=true:=hu;have hst':=decide_eq_false HST.out;have hse':=decide_eq_false HSE.out;unfold OpD.okM;rw[hm',hst',hu',hse',hky];rfl),hf10⟩
         ·have hn1:(o.under.n == 0)=false:=by simp[hn]
          have HST:=Jh (Z65 hn)
          clear hn
          have c11:=OB.cell hf8.1 (j:=11) rfl
          have c12:=OB.cell hf8.1 (j:=12) rfl
          have c15:=OB.cell hf8.1 (j:=15) rfl
          have c16:=OB.cell hf8.1 (j:=16) rfl
          have c17:=OB.cell hf8.1 (j:=17) rfl
          have n0:=hf8.2.2.1
          have n1:=hf8.2.2.2.1
          have lo:=OB.whole hf8.1
          go_wp2_with (((with_reducible_and_instances refine Z9 (o:=⟨some 120,_,_,_,_,_⟩) (v:=.agg o.cells.toArray) ?_ ?_ ?_);rfl;exact Z8 rfl rfl lo))
          refine (WI o o.under.n o.under.r _).mono ?_
          rintro e W9 ⟨rfl,bb⟩
          have hf9:=RF.below hf8 bb
          clear c11 c12 c15 c16 c17 n0 n1 lo bb hf8
          cases hu:o.may ⟨o.under.n,o.under.r⟩ with
          | false =>
           have c11:=OB.cell hf9.1 (j:=11) rfl
           have c12:=OB.cell hf9.1 (j:=12) rfl
           have c15:=OB.cell hf9.1 (j:=15) rfl
           have c16:=OB.cell hf9.1 (j:=16) rfl
           have c17:=OB.cell hf9.1 (j:=17) rfl
           have n0:=hf9.2.2.1
           have n1:=hf9.2.2.2.1
           have lo:=OB.whole hf9.1
           go_wp2_with fail
           go_meet
           case rel=>exact ⟨false,rfl,Jh (by have hst:=HST.out;simp[OpD.okM,hm,hst,hu] <;> omega),hf9⟩
          | true =>
           by_cases e1:o.under.n=o.ref.n
           ·have f1:(o.under.n == o.ref.n)=true:=by simp[e1]
            by_cases e2:o.under.r=o.ref.r
            ·have f2:(o.under.r == o.ref.r)=true:=by simp[e2]
             have HSE:=Jh (Z3y e1 e2)
             clear e1 e2
             have c11:=OB.cell hf9.1 (j:=11) rfl
             have c12:=OB.cell hf9.1 (j:=12) rfl
             have c15:=OB.cell hf9.1 (j:=15) rfl
             have c16:=OB.cell hf9.1 (j:=16) rfl
             have c17:=OB.cell hf9.1 (j:=17) rfl
             have n0:=hf9.2.2.1
             have n1:=hf9.2.2.2.1
             have lo:=OB.whole hf9.1
             go_wp2_with fail
             go_meet
             case rel=>exact ⟨false,rfl,Jh (by unfold OpD.okM;rw[decide_eq_true HSE.out];simp),hf9⟩
            ·have f2:(o.under.r == o.ref.r)=false:=by simp[e2]
             have HSE:=Jh (Z0M e2)
             clear e1
             have c11:=OB.cell hf9.1 (j:=11) rfl
             have c12:=OB.cell hf9.1 (j:=12) rfl
             have c15:=OB.cell hf9.1 (j:=15) rfl
             have c16:=OB.cell hf9.1 (j:=16) rfl
             have c17:=OB.cell hf9.1 (j:=17) rfl
             have n0:=hf9.2.2.1
             have n1:=hf9.2.2.2.1
             have lo:=OB.whole hf9.1
             go_wp2_with fail
             refine (UH o.key _ HFIT.out.1).mono ?_
             rintro e W10 ⟨rfl,bb⟩
             have hf10:=RF.below hf9 bb
             clear c11 c12 c15 c16 c17 n0 n1 lo bb hf9
             cases hky:YS o.key with
             | false =>
              have c11:=OB.cell hf10.1 (j:=11) rfl
              have c12:=OB.cell hf10.1 (j:=12) rfl
              have c15:=OB.cell hf10.1 (j:=15) rfl
              have c16:=OB.cell hf10.1 (j:=16) rfl
              have c17:=OB.cell hf10.1 (j:=17) rfl
              have n0:=hf10.2.2.1
              have n1:=hf10.2.2.2.1
              have lo:=OB.whole hf10.1
              go_wp2_with fail
              go_meet
              case rel=>exact ⟨false,rfl,Jh (by have hm':o.may o.ref=true:=hm;have hu':o.may o.under=true:=hu;have hst':=decide_eq_false HST.out;have hse':=decide_eq_false HSE.out;unfold OpD.okM;rw[hm',hst',hu',hse',hky];rfl),hf10⟩
             | true =>
              have c11:=OB.cell hf10.1 (j:=11) rfl
              have c12:=OB.cell hf10.1 (j:=12) rfl
              have c15:=OB.cell hf10.1 (j:=15) rfl
              have c16:=OB.cell hf10.1 (j:=16) rfl
              have c17:=OB.cell hf10.1 (j:=17) rfl
              have n0:=hf10.2.2.1
              have n1:=hf10.2.2.2.1
              have lo:=OB.whole hf10.1
              go_wp2_with fail
              go_meet
              case rel=>exact ⟨true,rfl,Jh (by have hm':o.may o.ref=true:=hm;have hu':o.may o.under=true:=hu;have hst':=decide_eq_false HST.out;have hse':=decide_eq_false HSE.out;unfold OpD.okM;rw[hm',hst',hu',hse',hky];rfl),hf10⟩
           ·have f1:(o.under.n == o.ref.n)=false:=by simp[e1]
            have HSE:=Jh (Z0T e1)
            have c11:=OB.cell hf9.1 (j:=11) rfl
            have c12:=OB.cell hf9.1 (j:=12) rfl
            have c15:=OB.cell hf9.1 (j:=15) rfl
            have c16:=OB.cell hf9.1 (j:=16) rfl
            have c17:=OB.cell hf9.1 (j:=17) rfl
            have n0:=hf9.2.2.1
            have n1:=hf9.2.2.2.1
            have lo:=OB.whole hf9.1
            go_wp2_with fail
            refine (UH o.key _ HFIT.out.1).mono ?_
            rintro e W10 ⟨rfl,bb⟩
            have hf10:=RF.below hf9 bb
            clear c11 c12 c15 c16 c17 n0 n1 lo bb hf9
            cases hky:YS o.key with
            | false =>
             have c11:=OB.cell hf10.1 (j:=11) rfl
             have c12:=OB.cell hf10.1 (j:=12) rfl
             have c15:=OB.cell hf10.1 (j:=15) rfl
             have c16:=OB.cell hf10.1 (j:=16) rfl
             have c17:=OB.cell hf10.1 (j:=17) rfl
             have n0:=hf10.2.2.1
             have n1:=hf10.2.2.2.1
             have lo:=OB.whole hf10.1
             go_wp2_with fail
             go_meet
             case rel=>exact ⟨false,rfl,Jh (by have hm':o.may o.ref=true:=hm;have hu':o.may o.under=true:=hu;have hst':=decide_eq_false HST.out;have hse':=decide_eq_false HSE.out;unfold OpD.okM;rw[hm',hst',hu',hse',hky];rfl),hf10⟩
            | true =>
             have c11:=OB.cell hf10.1 (j:=11) rfl
             have c12:=OB.cell hf10.1 (j:=12) rfl
             have c15:=OB.cell hf10.1 (j:=15) rfl
             have c16:=OB.cell hf10.1 (j:=16) rfl
             have c17:=OB.cell hf10.1 (j:=17) rfl
             have n0:=hf10.2.2.1
             have n1:=hf10.2.2.2.1
             have lo:=OB.whole hf10.1
             go_wp2_with fail
             go_meet
             case rel=>exact ⟨true,rfl,Jh (by have hm':o.may o.ref=true:=hm;have hu':o.may o.under=true:=hu;have hst':=decide_eq_false HST.out;have hse':=decide_eq_false HSE.out;unfold OpD.okM;rw[hm',hst',hu',hse',hky];rfl),hf10⟩
       case rest =>
        obtain ⟨ok,rfl,hok,hf9⟩:=hcut
        cases ok with
        | false =>
         have HV:Hid (o.right=false):=Jh (by rw[HR.out,Z17 hk,←hok.out];rfl)
         have HB:Hid (Below w.heap.size w _):=Lib.hid hf9.2.2.2.2
         have c11:=OB.cell hf9.1 (j:=11) rfl
         have c12:=OB.cell hf9.1 (j:=12) rfl
         have c15:=OB.cell hf9.1 (j:=15) rfl
         have c16:=OB.cell hf9.1 (j:=16) rfl
         have c17:=OB.cell hf9.1 (j:=17) rfl
         have n0:=hf9.2.2.1
         have n1:=hf9.2.2.2.1
         have lo:=OB.whole hf9.1
         go_wp2_with fail
         go_ret
         exact ⟨by rw[HV.out];rfl,HB.out⟩
        | true =>
         obtain ⟨eb,heb⟩:∃ eb,eb=decide (o.keepM=o):=⟨_,rfl⟩
         have HV:Hid (o.right=eb):=Jh (by rw[HR.out,Z17 hk,←hok.out,heb];rfl)
         have HB:Hid (Below w.heap.size w _):=Lib.hid hf9.2.2.2.2
         have lx:=OB.whole hf9.2.1
         have heq:=fun W=>Xr (o.keepM) o W
         unfold OpD.val at heq
         rw[←heb] at heq
         clear heb
         have c11:=OB.cell hf9.1 (j:=11) rfl
         have c12:=OB.cell hf9.1 (j:=12) rfl
         have c15:=OB.cell hf9.1 (j:=15) rfl
         have c16:=OB.cell hf9.1 (j:=16) rfl
         have c17:=OB.cell hf9.1 (j:=17) rfl
         have n0:=hf9.2.2.1
         have n1:=hf9.2.2.2.1
         have lo:=OB.whole hf9.1
         go_wp2_with (first|((with_reducible_and_instances refine Z9 (o:=⟨some 187,_,_,_,_,_⟩) (v:=.agg (o.keepM).cells.toArray) ?_ ?_ ?_);rfl;exact Z8 rfl rfl lx)|((with_reducible_and_instances refine Z9 (o:=⟨some 188,_,_,_,_,_⟩) (v:=.agg o.cells.toArray) ?_ ?_ ?_);rfl;exact Z8 rfl rfl lo))
         go_ret
         exact ⟨by rw[HV.out];rfl,HB.out⟩
      ·have h3:=hk
       skip
       by_cases hk:o.kind=4
       ·skip
        have k1:(o.kind == 1)=false:=by simp[hk]
        have k2:(o.kind == 2)=false:=by simp[hk]
        have k3:(o.kind == 3)=false:=by simp[hk]
        have k4:(o.kind == 4)=true:=by simp[hk]
        have c10:=OB.cell hf6.1 (j:=10) rfl
        have n0:=hf6.2.2.1
        have n1:=hf6.2.2.2.1
        have lo:=OB.whole hf6.1
        go_upto_region 18 with fail
        clear c10 n0 n1 lo
        obtain ⟨W7,hst,hob,hxt⟩:=OB.store hf6.2.1 (T:=62) UL (off:=11) (v:=.agg #[.int .i64 o.ref.n,.int .i64 o.ref.r]) (vs:=[.int .i64 o.ref.n,.int .i64 o.ref.r]) rfl rfl (by intro u hu;simp only[List.mem_cons,List.not_mem_nil,or_false] at hu;rcases hu with rfl|rfl <;> rfl) (by omega) (o.keepR) rfl
        have hf7:=RF.ext hf6 hxt hsz4 hob
        have c10:=OB.cell hf6.1 (j:=10) rfl
        have c11:=OB.cell hf6.1 (j:=11) rfl
        have c12:=OB.cell hf6.1 (j:=12) rfl
        have c18:=OB.cell hf6.1 (j:=18) rfl
        have c19:=OB.cell hf6.1 (j:=19) rfl
        have n0:=hf6.2.2.1
        have n1:=hf6.2.2.2.1
        have lo:=OB.whole hf6.1
        clear hxt hob hf6
        go_upto_region 19 with (refine Z2 rfl rfl rfl rfl hst ?_)
        clear c10 c11 c12 c18 c19 n0 n1 lo hst
        have c10:=OB.cell hf7.1 (j:=10) rfl
        have c11:=OB.cell hf7.1 (j:=11) rfl
        have c12:=OB.cell hf7.1 (j:=12) rfl
        have c18:=OB.cell hf7.1 (j:=18) rfl
        have c19:=OB.cell hf7.1 (j:=19) rfl
        have n0:=hf7.2.2.1
        have n1:=hf7.2.2.2.1
        have lo:=OB.whole hf7.1
        go_wp2_with (((with_reducible_and_instances refine Z9 (o:=⟨some 141,_,_,_,_,_⟩) (v:=.agg o.cells.toArray) ?_ ?_ ?_);rfl;exact Z8 rfl rfl lo))
        refine (WI o o.ref.n o.ref.r _).mono ?_
        rintro e W8 ⟨rfl,bb⟩
        have hf8:=RF.below hf7 bb
        clear c10 c11 c12 c18 c19 n0 n1 lo bb hf7
        cases hm:o.may ⟨o.ref.n,o.ref.r⟩ with
        | false =>
         have HV:Hid (o.right=false):=Jh (by rw[HR.out,S8 hk];simp[OpD.okS,hm])
         have HB:Hid (Below w.heap.size w _):=Lib.hid hf8.2.2.2.2
         go_wp2_with fail
         go_ret
         exact ⟨by rw[HV.out];rfl,HB.out⟩
        | true =>
         have c10:=OB.cell hf8.1 (j:=10) rfl
         have c11:=OB.cell hf8.1 (j:=11) rfl
         have c12:=OB.cell hf8.1 (j:=12) rfl
         have c18:=OB.cell hf8.1 (j:=18) rfl
         have c19:=OB.cell hf8.1 (j:=19) rfl
         have n0:=hf8.2.2.1
         have n1:=hf8.2.2.2.1
         have lo:=OB.whole hf8.1
         go_upto_region 22 with fail
         clear c10 c11 c12 c18 c19 n0 n1 lo
         go_upto_region 22 with fail
         have hf90:=RF.drew hf8
         clear hf8
         have hS0:(fun W:World=>OB w.heap.size o W) W8.drew:=hf90.1
         refine Z6 (fun W:World=>OB w.heap.size o W) (fun _=>false) (by kernel_rfl) ?_
         generalize W8.drew=V0 at hS0 hf90 ⊢
         refine J0 0 147 (.pointer (some ⟨w.heap.size,18,none⟩)) hS0 ?_
         try simp only[Ja]
         refine JR 1 148 (.string o.name) rfl rfl hS0 (fun W hW=>by have q0:=OB.cell hW (j:=18) rfl;go_simp;try rfl) ?_
         try simp only[Ja]
         refine J0 2 149 (.pointer (some ⟨w.heap.size,19,none⟩)) hS0 ?_
         try simp only[Ja]
         refine JR 3 150 (.string o.value) rfl rfl hS0 (fun W hW=>by have q0:=OB.cell hW (j:=19) rfl;go_simp;try rfl) ?_
         try simp only[Ja]
         refine J0 4 151 (.pointer (some ⟨Bn+1,18,none⟩)) hS0 ?_
         try simp only[Ja]
         obtain ⟨V1,hst,hob,hxt⟩:=OB.store hf90.2.1 (T:=9) S0 (off:=18) (v:=.string o.name) (vs:=[.string o.name]) rfl rfl (by intro u hu;simp only[List.mem_cons,List.not_mem_nil,or_false] at hu;rcases hu with rfl <;> rfl) (by omega) ({ o.bare with ref:=o.ref,name:=o.name }) rfl
         have hf91:=RF.ext hf90 hxt hsz4 hob
         have hS1:(fun W:World=>OB w.heap.size o W) V1:=hf91.1
         refine Zn (i:=5) (d:=none) (w':=V1) (by kernel_rfl) rfl rfl (by rfl) (Yi rfl rfl rfl hst) (fun _=>hS1) ?_
         try simp only[Ja]
         clear hst hob hxt hS0 hf90
         refine J0 6 152 (.pointer (some ⟨Bn+1,19,none⟩)) hS1 ?_
         try simp only[Ja]
         obtain ⟨V2,hst,hob,hxt⟩:=OB.store hf91.2.1 (T:=9) S0 (off:=19) (v:=.string o.value) (vs:=[.string o.value]) rfl rfl (by intro u hu;simp only[List.mem_cons,List.not_mem_nil,or_false] at hu;rcases hu with rfl <;> rfl) (by omega) (o.keepS) rfl
         have hf92:=RF.ext hf91 hxt hsz4 hob
         have hS2:(fun W:World=>OB w.heap.size o W) V2:=hf92.1
         refine Zn (i:=7) (d:=none) (w':=V2) (by kernel_rfl) rfl rfl (by rfl) (Yi rfl rfl rfl hst) (fun _=>hS2) ?_
         try simp only[Ja]
         clear hst hob hxt hS1 hf91
         refine Z3 (by kernel_rfl) ?_ _
         clear hS2
         have hf9:=hf92
         clear hf92
         have c10:=OB.cell hf9.1 (j:=10) rfl
         have c11:=OB.cell hf9.1 (j:=11) rfl
         have c12:=OB.cell hf9.1 (j:=12) rfl
         have c18:=OB.cell hf9.1 (j:=18) rfl
         have c19:=OB.cell hf9.1 (j:=19) rfl
         have n0:=hf9.2.2.1
         have n1:=hf9.2.2.2.1
         have lo:=OB.whole hf9.1
         go_wp2_with fail
         refine (Z3o o.name _ HFIT.out.2.1).mono ?_
         rintro e W11 ⟨rfl,bb⟩
         have hf11:=RF.below hf9 bb
         clear c10 c11 c12 c18 c19 n0 n1 lo bb hf9
         cases hna:YG o.name with
         | false =>
          have HV:Hid (o.right=false):=Jh (by rw[HR.out,S8 hk];simp[OpD.okS,hm,hna])
          have HB:Hid (Below w.heap.size w _):=Lib.hid hf11.2.2.2.2
          have c10:=OB.cell hf11.1 (j:=10) rfl
          have c11:=OB.cell hf11.1 (j:=11) rfl
          have c12:=OB.cell hf11.1 (j:=12) rfl
          have c18:=OB.cell hf11.1 (j:=18) rfl
          have c19:=OB.cell hf11.1 (j:=19) rfl
          have n0:=hf11.2.2.1
          have n1:=hf11.2.2.2.1
          have lo:=OB.whole hf11.1
          go_wp2_with fail
          go_ret
          exact ⟨by rw[HV.out];rfl,HB.out⟩
         | true =>
          have c10:=OB.cell hf11.1 (j:=10) rfl
          have c11:=OB.cell hf11.1 (j:=11) rfl
          have c12:=OB.cell hf11.1 (j:=12) rfl
          have c18:=OB.cell hf11.1 (j:=18) rfl
          have c19:=OB.cell hf11.1 (j:=19) rfl
          have n0:=hf11.2.2.1
          have n1:=hf11.2.2.2.1
          have lo:=OB.whole hf11.1
          go_wp2_with fail
          refine (Z1H o.value _ HFIT.out.2.2).mono ?_
          rintro e W12 ⟨rfl,bb⟩
          have hf12:=RF.below hf11 bb
          clear c10 c11 c12 c18 c19 n0 n1 lo bb hf11
          cases hva:YB o.value with
          | false =>
           have HV:Hid (o.right=false):=Jh (by rw[HR.out,S8 hk];simp[OpD.okS,hm,hna,hva])
           have HB:Hid (Below w.heap.size w _):=Lib.hid hf12.2.2.2.2
           have c10:=OB.cell hf12.1 (j:=10) rfl
           have c11:=OB.cell hf12.1 (j:=11) rfl
           have c12:=OB.cell hf12.1 (j:=12) rfl
           have c18:=OB.cell hf12.1 (j:=18) rfl
           have c19:=OB.cell hf12.1 (j:=19) rfl
           have n0:=hf12.2.2.1
           have n1:=hf12.2.2.2.1
           have lo:=OB.whole hf12.1
           go_wp2_with fail
           go_ret
           exact ⟨by rw[HV.out];rfl,HB.out⟩
          | true =>
           obtain ⟨eb,heb⟩:∃ eb,eb=decide (o.keepS=o):=⟨_,rfl⟩
           have HV:Hid (o.right=eb):=Jh (by rw[HR.out,S8 hk,heb];simp[OpD.okS,hm,hna,hva])
           have HB:Hid (Below w.heap.size w _):=Lib.hid hf12.2.2.2.2
           have lx:=OB.whole hf12.2.1
           have heq:=fun W=>Xr (o.keepS) o W
           unfold OpD.val at heq
           rw[←heb] at heq
           clear heb
           have c10:=OB.cell hf12.1 (j:=10) rfl
           have c11:=OB.cell hf12.1 (j:=11) rfl
           have c12:=OB.cell hf12.1 (j:=12) rfl
           have c18:=OB.cell hf12.1 (j:=18) rfl
           have c19:=OB.cell hf12.1 (j:=19) rfl
           have n0:=hf12.2.2.1
           have n1:=hf12.2.2.2.1
           have lo:=OB.whole hf12.1
           go_wp2_with (first|((with_reducible_and_instances refine Z9 (o:=⟨some 187,_,_,_,_,_⟩) (v:=.agg (o.keepS).cells.toArray) ?_ ?_ ?_);rfl;exact Z8 rfl rfl lx)|((with_reducible_and_instances refine Z9 (o:=⟨some 188,_,_,_,_,_⟩) (v:=.agg o.cells.toArray) ?_ ?_ ?_);rfl;exact Z8 rfl rfl lo))
           go_ret
           exact ⟨by rw[HV.out];rfl,HB.out⟩
       ·have h4:=hk
        skip
        by_cases hk:o.kind=5
        ·skip
         have k1:(o.kind == 1)=false:=by simp[hk]
         have k2:(o.kind == 2)=false:=by simp[hk]
         have k3:(o.kind == 3)=false:=by simp[hk]
         have k4:(o.kind == 4)=false:=by simp[hk]
         have k5:(o.kind == 5)=true:=by simp[hk]
         have c10:=OB.cell hf6.1 (j:=10) rfl
         have n0:=hf6.2.2.1
         have n1:=hf6.2.2.2.1
         have lo:=OB.whole hf6.1
         go_upto_region 22 with fail
         clear c10 n0 n1 lo
         go_upto_region 22 with fail
         have hf70:=RF.drew hf6
         clear hf6
         have hS0:(fun W:World=>OB w.heap.size o W) W6.drew:=hf70.1
         refine Z6 (fun W:World=>OB w.heap.size o W) (fun _=>false) (by kernel_rfl) ?_
         generalize W6.drew=V0 at hS0 hf70 ⊢
         refine J0 0 147 (.pointer (some ⟨w.heap.size,18,none⟩)) hS0 ?_
         try simp only[Ja]
         refine JR 1 148 (.string o.name) rfl rfl hS0 (fun W hW=>by have q0:=OB.cell hW (j:=18) rfl;go_simp;try rfl) ?_
         try simp only[Ja]
         refine J0 2 149 (.pointer (some ⟨w.heap.size,19,none⟩)) hS0 ?_
         try simp only[Ja]
         refine JR 3 150 (.string o.value) rfl rfl hS0 (fun W hW=>by have q0:=OB.cell hW (j:=19) rfl;go_simp;try rfl) ?_
         try simp only[Ja]
         refine J0 4 151 (.pointer (some ⟨Bn+1,18,none⟩)) hS0 ?_
         try simp only[Ja]
         obtain ⟨V1,hst,hob,hxt⟩:=OB.store hf70.2.1 (T:=9) S0 (off:=18) (v:=.string o.name) (vs:=[.string o.name]) rfl rfl (by intro u hu;simp only[List.mem_cons,List.not_mem_nil,or_false] at hu;rcases hu with rfl <;> rfl) (by omega) ({ o.bare with name:=o.name }) rfl
         have hf71:=RF.ext hf70 hxt hsz4 hob
         have hS1:(fun W:World=>OB w.heap.size o W) V1:=hf71.1
         refine Zn (i:=5) (d:=none) (w':=V1) (by kernel_rfl) rfl rfl (by rfl) (Yi rfl rfl rfl hst) (fun _=>hS1) ?_
         try simp only[Ja]
         clear hst hob hxt hS0 hf70
         refine J0 6 152 (.pointer (some ⟨Bn+1,19,none⟩)) hS1 ?_
         try simp only[Ja]
         obtain ⟨V2,hst,hob,hxt⟩:=OB.store hf71.2.1 (T:=9) S0 (off:=19) (v:=.string o.value) (vs:=[.string o.value]) rfl rfl (by intro u hu;simp only[List.mem_cons,List.not_mem_nil,or_false] at hu;rcases hu with rfl <;> rfl) (by omega) ({ o.bare with name:=o.name,value:=o.value }) rfl
         have hf72:=RF.ext hf71 hxt hsz4 hob
         have hS2:(fun W:World=>OB w.heap.size o W) V2:=hf72.1
         refine Zn (i:=7) (d:=none) (w':=V2) (by kernel_rfl) rfl rfl (by rfl) (Yi rfl rfl rfl hst) (fun _=>hS2) ?_
         try simp only[Ja]
         clear hst hob hxt hS1 hf71
         refine Z3 (by kernel_rfl) ?_ _
         clear hS2
         have hf7:=hf72
         clear hf72
         have c10:=OB.cell hf7.1 (j:=10) rfl
         have c18:=OB.cell hf7.1 (j:=18) rfl
         have c19:=OB.cell hf7.1 (j:=19) rfl
         have c20:=OB.cell hf7.1 (j:=20) rfl
         have c21:=OB.cell hf7.1 (j:=21) rfl
         have c22:=OB.cell hf7.1 (j:=22) rfl
         have c23:=OB.cell hf7.1 (j:=23) rfl
         have c24:=OB.cell hf7.1 (j:=24) rfl
         have c25:=OB.cell hf7.1 (j:=25) rfl
         have n0:=hf7.2.2.1
         have n1:=hf7.2.2.2.1
         have lo:=OB.whole hf7.1
         go_upto_region 24 with fail
         clear c10 c18 c19 c20 c21 c22 c23 c24 c25 n0 n1 lo
         go_upto_region 24 with fail
         have hf80:=RF.drew hf7
         clear hf7
         have hS0:(fun W:World=>OB w.heap.size o W) V2.drew:=hf80.1
         refine Z6 (fun W:World=>OB w.heap.size o W) (fun _=>false) (by kernel_rfl) ?_
         generalize V2.drew=Y0 at hS0 hf80 ⊢
         refine J0 0 156 (.pointer (some ⟨w.heap.size,20,none⟩)) hS0 ?_
         try simp only[Ja]
         refine JR 1 157 (.agg #[.int .i64 o.fr.n,.int .i64 o.fr.r,.bool o.fa]) rfl rfl hS0 (fun W hW=>by exact Z8 rfl rfl (OB.part hW Z11 20 _ rfl rfl)) ?_
         try simp only[Ja]
         refine J0 2 158 (.pointer (some ⟨w.heap.size,23,none⟩)) hS0 ?_
         try simp only[Ja]
         refine JR 3 159 (.agg #[.int .i64 o.tr.n,.int .i64 o.tr.r,.bool o.ta]) rfl rfl hS0 (fun W hW=>by exact Z8 rfl rfl (OB.part hW Z11 23 _ rfl rfl)) ?_
         try simp only[Ja]
         refine J0 4 160 (.pointer (some ⟨Bn+1,20,none⟩)) hS0 ?_
         try simp only[Ja]
         obtain ⟨Y1,hst,hob,hxt⟩:=OB.store hf80.2.1 (T:=66) Z3w (off:=20) (v:=.agg #[.int .i64 o.fr.n,.int .i64 o.fr.r,.bool o.fa]) (vs:=[.int .i64 o.fr.n,.int .i64 o.fr.r,.bool o.fa]) rfl rfl (by intro u hu;simp only[List.mem_cons,List.not_mem_nil,or_false] at hu;rcases hu with rfl|rfl|rfl <;> rfl) (by omega) ({ o.bare with name:=o.name,value:=o.value,fr:=o.fr,fa:=o.fa }) rfl
         have hf81:=RF.ext hf80 hxt hsz4 hob
         have hS1:(fun W:World=>OB w.heap.size o W) Y1:=hf81.1
         refine Zn (i:=5) (d:=none) (w':=Y1) (by kernel_rfl) rfl rfl (by rfl) (Yi rfl rfl rfl hst) (fun _=>hS1) ?_
         try simp only[Ja]
         clear hst hob hxt hS0 hf80
         refine J0 6 161 (.pointer (some ⟨Bn+1,23,none⟩)) hS1 ?_
         try simp only[Ja]
         obtain ⟨Y2,hst,hob,hxt⟩:=OB.store hf81.2.1 (T:=66) Z3w (off:=23) (v:=.agg #[.int .i64 o.tr.n,.int .i64 o.tr.r,.bool o.ta]) (vs:=[.int .i64 o.tr.n,.int .i64 o.tr.r,.bool o.ta]) rfl rfl (by intro u hu;simp only[List.mem_cons,List.not_mem_nil,or_false] at hu;rcases hu with rfl|rfl|rfl <;> rfl) (by omega) (o.keepK) rfl
         have hf82:=RF.ext hf81 hxt hsz4 hob
         have hS2:(fun W:World=>OB w.heap.size o W) Y2:=hf82.1
         refine Zn (i:=7) (d:=none) (w':=Y2) (by kernel_rfl) rfl rfl (by rfl) (Yi rfl rfl rfl hst) (fun _=>hS2) ?_
         try simp only[Ja]
         clear hst hob hxt hS1 hf81
         refine Z3 (by kernel_rfl) ?_ _
         clear hS2
         have hf8:=hf82
         clear hf82
         have c10:=OB.cell hf8.1 (j:=10) rfl
         have c18:=OB.cell hf8.1 (j:=18) rfl
         have c19:=OB.cell hf8.1 (j:=19) rfl
         have c20:=OB.cell hf8.1 (j:=20) rfl
         have c21:=OB.cell hf8.1 (j:=21) rfl
         have c22:=OB.cell hf8.1 (j:=22) rfl
         have c23:=OB.cell hf8.1 (j:=23) rfl
         have c24:=OB.cell hf8.1 (j:=24) rfl
         have c25:=OB.cell hf8.1 (j:=25) rfl
         have n0:=hf8.2.2.1
         have n1:=hf8.2.2.2.1
         have lo:=OB.whole hf8.1
         go_wp2_with (((with_reducible_and_instances refine Z9 (o:=⟨some 162,_,_,_,_,_⟩) (v:=.agg o.cells.toArray) ?_ ?_ ?_);rfl;exact Z8 rfl rfl lo))
         refine (WI o o.fr.n o.fr.r _).mono ?_
         rintro e W8 ⟨rfl,bb⟩
         have hf9:=RF.below hf8 bb
         clear c10 c18 c19 c20 c21 c22 c23 c24 c25 n0 n1 lo bb hf8
         cases hm:o.may ⟨o.fr.n,o.fr.r⟩ with
         | false =>
          have HV:Hid (o.right=false):=Jh (by rw[HR.out,UG hk];simp[OpD.okK,hm])
          have HB:Hid (Below w.heap.size w _):=Lib.hid hf9.2.2.2.2
          have c10:=OB.cell hf9.1 (j:=10) rfl
          have c18:=OB.cell hf9.1 (j:=18) rfl
          have c19:=OB.cell hf9.1 (j:=19) rfl
          have c20:=OB.cell hf9.1 (j:=20) rfl
          have c21:=OB.cell hf9.1 (j:=21) rfl
          have c22:=OB.cell hf9.1 (j:=22) rfl
          have c23:=OB.cell hf9.1 (j:=23) rfl
          have c24:=OB.cell hf9.1 (j:=24) rfl
          have c25:=OB.cell hf9.1 (j:=25) rfl
          have n0:=hf9.2.2.1
          have n1:=hf9.2.2.2.1
          have lo:=OB.whole hf9.1
          go_wp2_with fail
          go_ret
          exact ⟨by rw[HV.out];rfl,HB.out⟩
         | true =>
          have c10:=OB.cell hf9.1 (j:=10) rfl
          have c18:=OB.cell hf9.1 (j:=18) rfl
          have c19:=OB.cell hf9.1 (j:=19) rfl
          have c20:=OB.cell hf9.1 (j:=20) rfl
          have c21:=OB.cell hf9.1 (j:=21) rfl
          have c22:=OB.cell hf9.1 (j:=22) rfl
          have c23:=OB.cell hf9.1 (j:=23) rfl
          have c24:=OB.cell hf9.1 (j:=24) rfl
          have c25:=OB.cell hf9.1 (j:=25) rfl
          have n0:=hf9.2.2.1
          have n1:=hf9.2.2.2.1
          have lo:=OB.whole hf9.1
          go_wp2_with (((with_reducible_and_instances refine Z9 (o:=⟨some 168,_,_,_,_,_⟩) (v:=.agg o.cells.toArray) ?_ ?_ ?_);rfl;exact Z8 rfl rfl lo))
          refine (WI o o.tr.n o.tr.r _).mono ?_
          rintro e W9 ⟨rfl,bb⟩
          have hf10:=RF.below hf9 bb
          clear c10 c18 c19 c20 c21 c22 c23 c24 c25 n0 n1 lo bb hf9
          cases hu:o.may ⟨o.tr.n,o.tr.r⟩ with
          | false =>
           have HV:Hid (o.right=false):=Jh (by rw[HR.out,UG hk];simp[OpD.okK,hm,hu])
           have HB:Hid (Below w.heap.size w _):=Lib.hid hf10.2.2.2.2
           have c10:=OB.cell hf10.1 (j:=10) rfl
           have c18:=OB.cell hf10.1 (j:=18) rfl
           have c19:=OB.cell hf10.1 (j:=19) rfl
           have c20:=OB.cell hf10.1 (j:=20) rfl
           have c21:=OB.cell hf10.1 (j:=21) rfl
           have c22:=OB.cell hf10.1 (j:=22) rfl
           have c23:=OB.cell hf10.1 (j:=23) rfl
           have c24:=OB.cell hf10.1 (j:=24) rfl
           have c25:=OB.cell hf10.1 (j:=25) rfl
           have n0:=hf10.2.2.1
           have n1:=hf10.2.2.2.1
           have lo:=OB.whole hf10.1
           go_wp2_with fail
           go_ret
           exact ⟨by rw[HV.out];rfl,HB.out⟩
          | true =>
           have c10:=OB.cell hf10.1 (j:=10) rfl
           have c18:=OB.cell hf10.1 (j:=18) rfl
           have c19:=OB.cell hf10.1 (j:=19) rfl
           have c20:=OB.cell hf10.1 (j:=20) rfl
           have c21:=OB.cell hf10.1 (j:=21) rfl
           have c22:=OB.cell hf10.1 (j:=22) rfl
           have c23:=OB.cell hf10.1 (j:=23) rfl
           have c24:=OB.cell hf10.1 (j:=24) rfl
           have c25:=OB.cell hf10.1 (j:=25) rfl
           have n0:=hf10.2.2.1
           have n1:=hf10.2.2.2.1
           have lo:=OB.whole hf10.1
           go_wp2_with fail
           refine (Z3o o.name _ HFIT.out.2.1).mono ?_
           rintro e W11 ⟨rfl,bb⟩
           have hf11:=RF.below hf10 bb
           clear c10 c18 c19 c20 c21 c22 c23 c24 c25 n0 n1 lo bb hf10
           cases hna:YG o.name with
           | false =>
            have HV:Hid (o.right=false):=Jh (by rw[HR.out,UG hk];simp[OpD.okK,hm,hu,hna])
            have HB:Hid (Below w.heap.size w _):=Lib.hid hf11.2.2.2.2
            have c10:=OB.cell hf11.1 (j:=10) rfl
            have c18:=OB.cell hf11.1 (j:=18) rfl
            have c19:=OB.cell hf11.1 (j:=19) rfl
            have c20:=OB.cell hf11.1 (j:=20) rfl
            have c21:=OB.cell hf11.1 (j:=21) rfl
            have c22:=OB.cell hf11.1 (j:=22) rfl
            have c23:=OB.cell hf11.1 (j:=23) rfl
            have c24:=OB.cell hf11.1 (j:=24) rfl
            have c25:=OB.cell hf11.1 (j:=25) rfl
            have n0:=hf11.2.2.1
            have n1:=hf11.2.2.2.1
            have lo:=OB.whole hf11.1
            go_wp2_with fail
            go_ret
            exact ⟨by rw[HV.out];rfl,HB.out⟩
           | true =>
            have c10:=OB.cell hf11.1 (j:=10) rfl
            have c18:=OB.cell hf11.1 (j:=18) rfl
            have c19:=OB.cell hf11.1 (j:=19) rfl
            have c20:=OB.cell hf11.1 (j:=20) rfl
            have c21:=OB.cell hf11.1 (j:=21) rfl
            have c22:=OB.cell hf11.1 (j:=22) rfl
            have c23:=OB.cell hf11.1 (j:=23) rfl
            have c24:=OB.cell hf11.1 (j:=24) rfl
            have c25:=OB.cell hf11.1 (j:=25) rfl
            have n0:=hf11.2.2.1
            have n1:=hf11.2.2.2.1
            have lo:=OB.whole hf11.1
            go_wp2_with fail
            refine (Z1H o.value _ HFIT.out.2.2).mono ?_
            rintro e W12 ⟨rfl,bb⟩
            have hf12:=RF.below hf11 bb
            clear c10 c18 c19 c20 c21 c22 c23 c24 c25 n0 n1 lo bb hf11
            cases hva:YB o.value with
            | false =>
             have HV:Hid (o.right=false):=Jh (by rw[HR.out,UG hk];simp[OpD.okK,hm,hu,hna,hva])
             have HB:Hid (Below w.heap.size w _):=Lib.hid hf12.2.2.2.2
             have c10:=OB.cell hf12.1 (j:=10) rfl
             have c18:=OB.cell hf12.1 (j:=18) rfl
             have c19:=OB.cell hf12.1 (j:=19) rfl
             have c20:=OB.cell hf12.1 (j:=20) rfl
             have c21:=OB.cell hf12.1 (j:=21) rfl
             have c22:=OB.cell hf12.1 (j:=22) rfl
             have c23:=OB.cell hf12.1 (j:=23) rfl
             have c24:=OB.cell hf12.1 (j:=24) rfl
             have c25:=OB.cell hf12.1 (j:=25) rfl
             have n0:=hf12.2.2.1
             have n1:=hf12.2.2.2.1
             have lo:=OB.whole hf12.1
             go_wp2_with fail
             go_ret
             exact ⟨by rw[HV.out];rfl,HB.out⟩
            | true =>
             obtain ⟨eb,heb⟩:∃ eb,eb=decide (o.keepK=o):=⟨_,rfl⟩
             have HV:Hid (o.right=eb):=Jh (by rw[HR.out,UG hk,heb];simp[OpD.okK,hm,hu,hna,hva])
             have HB:Hid (Below w.heap.size w _):=Lib.hid hf12.2.2.2.2
             have lx:=OB.whole hf12.2.1
             have heq:=fun W=>Xr (o.keepK) o W
             unfold OpD.val at heq
             rw[←heb] at heq
             clear heb
             have c10:=OB.cell hf12.1 (j:=10) rfl
             have c18:=OB.cell hf12.1 (j:=18) rfl
             have c19:=OB.cell hf12.1 (j:=19) rfl
             have c20:=OB.cell hf12.1 (j:=20) rfl
             have c21:=OB.cell hf12.1 (j:=21) rfl
             have c22:=OB.cell hf12.1 (j:=22) rfl
             have c23:=OB.cell hf12.1 (j:=23) rfl
             have c24:=OB.cell hf12.1 (j:=24) rfl
             have c25:=OB.cell hf12.1 (j:=25) rfl
             have n0:=hf12.2.2.1
             have n1:=hf12.2.2.2.1
             have lo:=OB.whole hf12.1
             go_wp2_with (first|((with_reducible_and_instances refine Z9 (o:=⟨some 187,_,_,_,_,_⟩) (v:=.agg (o.keepK).cells.toArray) ?_ ?_ ?_);rfl;exact Z8 rfl rfl lx)|((with_reducible_and_instances refine Z9 (o:=⟨some 188,_,_,_,_,_⟩) (v:=.agg o.cells.toArray) ?_ ?_ ?_);rfl;exact Z8 rfl rfl lo))
             go_ret
             exact ⟨by rw[HV.out];rfl,HB.out⟩
        ·have h5:=hk
         skip
         have HV:Hid (o.right=false):=Jh (by rw[HR.out];exact Z4r h1 h2 h3 h4 h5)
         have k1:(o.kind == 1)=false:=by simp[h1]
         have k2:(o.kind == 2)=false:=by simp[h2]
         have k3:(o.kind == 3)=false:=by simp[h3]
         have k4:(o.kind == 4)=false:=by simp[h4]
         have k5:(o.kind == 5)=false:=by simp[h5]
         have HB:Hid (Below w.heap.size w _):=Lib.hid hf6.2.2.2.2
         have c10:=OB.cell hf6.1 (j:=10) rfl
         have n0:=hf6.2.2.1
         have n1:=hf6.2.2.2.1
         have lo:=OB.whole hf6.1
         go_wp2_with fail
         go_ret
         exact ⟨by rw[HV.out];rfl,HB.out⟩
end Go.Proofs.YtgmdimbiipemhaaGreatDoor
