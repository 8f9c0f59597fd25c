/- OplogAnew, part 13 of what the proof leans on (made short by a program). -/
import Derived.Test.YtgmdimbiipemhaaGreatDoorAnZ12
set_option linter.unusedSimpArgs false
set_option linter.unusedVariables false
set_option linter.unusedSectionVars false
set_option maxRecDepth 20000
set_option maxHeartbeats 30000000
namespace Go.Proofs.YtgmdimbiipemhaaGreatDoor
open Go.RowKit Go.Deep
def okK (o:OpD) (k:Nat):Bool:=ZP o.id && (o.deps.take k).all fun d=>decide (0≤d) && decide (d<o.id.n)
theorem Z6B {o:OpD} {k:Nat} {d:Int} (hd:o.deps[k]?=some d):okK o (k+1)=(okK o k && (decide (0≤d) && decide (d<o.id.n))):=by
 unfold okK
 rw[List.take_add_one,hd,Option.toList_some,List.all_append,List.all_cons,List.all_nil,Bool.and_true,Bool.and_assoc]
theorem Z6H {B:Nat} {o:OpD} {W:World} (h:OB B o W) {k:Nat} (hk:k<8) {d:Int} (hd:o.deps[k]?=some d):W.cell? ⟨B,2+k,none⟩=some (.int .i64 d):=by
 match k,hk with
 | 0,_=>cases hd;exact h.cell rfl
 | 1,_=>cases hd;exact h.cell rfl
 | 2,_=>cases hd;exact h.cell rfl
 | 3,_=>cases hd;exact h.cell rfl
 | 4,_=>cases hd;exact h.cell rfl
 | 5,_=>cases hd;exact h.cell rfl
 | 6,_=>cases hd;exact h.cell rfl
 | 7,_=>cases hd;exact h.cell rfl
 | n+8,h=>exact absurd h (by omega)
theorem SS:∀ (l:List Int) (a:Int),l.foldl min a<0↔a<0∨∃ d∈l,d<0
 | [],a=>by simp
 | x :: l,a=>by
  rw[List.foldl_cons,SS l (min a x)]
  constructor
  ·rintro (h|⟨d,h1,h2⟩)
   ·rcases (by omega:a<0∨x<0) with h|h
    ·exact .inl h
    ·exact .inr ⟨x,by simp,h⟩
   ·exact .inr ⟨d,by simp[h1],h2⟩
  ·rintro (h|⟨d,h1,h2⟩)
   ·exact .inl (by omega)
   ·rcases List.mem_cons.1 h1 with rfl|h1
    ·exact .inl (by omega)
    ·exact .inr ⟨d,h1,h2⟩
theorem R9 (n:Int):∀ (l:List Int) (a:Int),n≤l.foldl max a↔n≤a∨∃ d∈l,n≤d
 | [],a=>by simp
 | x :: l,a=>by
  rw[List.foldl_cons,R9 n l (max a x)]
  constructor
  ·rintro (h|⟨d,h1,h2⟩)
   ·rcases (by omega:n≤a∨n≤x) with h|h
    ·exact .inl h
    ·exact .inr ⟨x,by simp,h⟩
   ·exact .inr ⟨d,by simp[h1],h2⟩
  ·rintro (h|⟨d,h1,h2⟩)
   ·exact .inl (by omega)
   ·rcases List.mem_cons.1 h1 with rfl|h1
    ·exact .inl (by omega)
    ·exact .inr ⟨d,h1,h2⟩
theorem Z54 (o:OpD):(!decide (VW o.deps<0) && !decide (o.id.n≤Wx o.deps))=o.deps.all fun d=>decide (0≤d) && decide (d<o.id.n):=by
 have h1:VW o.deps<0↔∃ d∈o.deps,d<0:=by
  unfold VW Lib.minOf
  rw[SS]
  exact ⟨fun h=>h.elim (fun h=>⟨o.d0,by simp[OpD.deps],h⟩) id,.inr⟩
 have h2:o.id.n≤Wx o.deps↔∃ d∈o.deps,o.id.n≤d:=by
  unfold Wx Lib.maxOf
  rw[R9]
  exact ⟨fun h=>h.elim (fun h=>⟨o.d0,by simp[OpD.deps],h⟩) id,.inr⟩
 rw[Bool.eq_iff_iff,List.all_eq_true,Bool.and_eq_true,Bool.not_eq_true',Bool.not_eq_true',decide_eq_false_iff_not,decide_eq_false_iff_not,h1,h2]
 constructor
 ·rintro ⟨h3,h4⟩ d hd
  have h5:¬ d<0:=fun e=>h3 ⟨d,hd,e⟩
  have h6:¬ o.id.n≤d:=fun e=>h4 ⟨d,hd,e⟩
  rw[decide_eq_true (by omega),decide_eq_true (by omega)]
  rfl
 ·intro h
  refine ⟨fun ⟨d,hd,e⟩=>?_,fun ⟨d,hd,e⟩=>?_⟩
  ·have:=h d hd
   rw[decide_eq_false (by omega)] at this
   cases this
  ·have:=h d hd
   rw[decide_eq_false (by omega:¬ d<o.id.n),Bool.and_false] at this
   cases this
theorem VJ (o:OpD):o.right=(okK o 8 && o.kindOk):=by
 have h:o.deps.take 8=o.deps:=rfl
 unfold OpD.right okK
 rw[h,←Z54 o,Bool.and_assoc,Bool.and_assoc]
theorem Z7r (o:OpD) (h:o.ref=⟨0,0⟩):o.may o.ref=false:=by
 unfold OpD.may
 rw[h]
 rfl
theorem V8 (o:OpD) {rv:Bool} (h:(true && decide (o.ref=⟨0,0⟩) || o.may o.ref)=rv):o.okI=(rv && (decide (o.side=2) || decide (o.side=1) && !decide (o.ref=⟨0,0⟩)) && (decide (o.ch=0) || decide (32≤o.ch) && decide (o.ch≤126))):=by
 rw[←h]
 unfold OpD.okI
 by_cases hz:o.ref=⟨0,0⟩
 ·rw[Z7r o hz,decide_eq_true hz]
  simp
 ·rw[decide_eq_false hz]
  generalize o.may o.ref=mv
  cases mv <;> simp[Bool.or_comm]
def RG (w:World) (B2:Nat) (o x:OpD) (W:World):Prop:=OB w.heap.size o W∧OB B2 x W∧Below w.heap.size w W
theorem RG.below {w W W':World} {B2:Nat} {o x:OpD} (h:RG w B2 o x W) (hb:Below W.heap.size W W'):RG w B2 o x W':=⟨h.1.below hb h.1.lt,h.2.1.below hb h.2.1.lt,h.2.2.trans (hb.mono (Nat.le_of_lt h.1.lt))⟩
theorem RG.ext {w W W':World} {B2:Nat} {o x x':OpD} (h:RG w B2 o x W) (hx:Ext (·=B2) W W') (hB:w.heap.size<B2) (h2:OB B2 x' W'):RG w B2 o x' W' :=
 ⟨h.1.ext hx (by omega),h2,Ext.new h.2.2 hx (fun i hi _ e=>by omega) (Nat.le_of_lt h.1.lt)⟩
theorem Z4J (s t:St) (W:World):(binOp .neq 62 (.agg #[.int .i64 s.n,.int .i64 s.r]) (.agg #[.int .i64 t.n,.int .i64 t.r])).run Tryz.prog W=.ok (.bool (!decide (s=t))) W:=by
 obtain ⟨a,b⟩:=s
 obtain ⟨c,d⟩:=t
 by_cases h1:a=c
 ·subst h1
  by_cases h2:b=d
  ·subst h2
   go_simp
  ·have hd:decide ((⟨a,b⟩:St)=⟨a,d⟩)=false:=decide_eq_false (by intro e;cases e;exact h2 rfl)
   rw[hd]
   go_simp
 ·have hd:decide ((⟨a,b⟩:St)=⟨c,d⟩)=false:=decide_eq_false (by intro e;cases e;exact h1 rfl)
  rw[hd]
  go_simp
theorem Z3N (o:OpD) (w:World) (hfit:o.fits):Calls Tryz.prog 88 #[o.val] w fun e w'=>e=.returned (.bool o.right)∧Below w.heap.size w w':=by
 have HFIT:=Lib.hid hfit
 clear hfit
 unfold OpD.val
 obtain ⟨W1,hW1⟩:=Je (w.alloc (.cells o.cells.toArray 68))
 have hb1:Below w.heap.size w W1:=by rw[←hW1];exact (Below.refl _ _).alloc (Nat.le_refl _) _
 have ho1:OB w.heap.size o W1:=by rw[←hW1];exact OB.new w o
 have c0:=OB.cell ho1 (j:=0) rfl
 have c1:=OB.cell ho1 (j:=1) rfl
 have HV1:=Jh (And.intro ho1 hb1)
 clear ho1 hb1
 go_enter Tryz.func88,Tryz.ntmps88
 go_wp2_with fail
 refine (Sq o.id.n o.id.r _).mono ?_
 rintro e w2 ⟨rfl,b2⟩
 simp only[show (⟨o.id.n,o.id.r⟩:St)=o.id from rfl]
 have HV2:Hid (OB w.heap.size o w2∧Below w.heap.size w w2):=Lib.hid ⟨HV1.out.1.below b2 HV1.out.1.lt,HV1.out.2.trans (b2.mono (Nat.le_of_lt HV1.out.1.lt))⟩
 clear b2 c0 c1 hW1 HV1
 have hk0:okK o 0=ZP o.id:=by simp[okK]
 have HK0:=Lib.hid hk0
 clear hk0
 go_wp2_with fail
 go_loopg [3,4] 8 (fun g ov kv wx=>∃ (k:Nat) (bk:Bool),g=8 - k∧ov=.bool bk∧kv=.int .i64 k∧k≤8∧Hid (okK o k=bk∧OB w.heap.size o wx∧Below w.heap.size w wx))
 case atStart=>exact ⟨0,_,rfl,rfl,rfl,by omega,Lib.hid ⟨HK0.out,HV2.out⟩⟩
 case round =>
  clear HV2 HK0
  obtain ⟨k,bk,hg,rfl,rfl,hk,HR⟩:=hrel
  have HG:=Lib.hid hg
  clear hg
  by_cases hlt:k<8
  ·have hk1:(k:Int)<8:=by omega
   have hk2:(0:Int)≤(k:Int):=by omega
   obtain ⟨d,hd⟩:∃ d,o.deps[k]?=some d:=⟨_,List.getElem?_eq_getElem (by exact hlt)⟩
   have cd:=Z6H HR.out.2.1 hlt hd
   have cn:=OB.cell HR.out.2.1 (j:=0) rfl
   have HS:=Jh (Z6B hd)
   have HD:=Lib.hid hd
   clear hd
   cases bk with
   | false =>
    have hSW:(fun W:World=>W.cell? ⟨w.heap.size,2+k,none⟩=some (.int .i64 d)∧W.cell? ⟨w.heap.size,0,none⟩=some (.int .i64 o.id.n)) wr.drew:=⟨cd,cn⟩
    go_upto_region 5 with fail
    refine Z6 (fun W:World=>W.cell? ⟨w.heap.size,2+k,none⟩=some (.int .i64 d)∧W.cell? ⟨w.heap.size,0,none⟩=some (.int .i64 o.id.n)) (fun _=>false) (by kernel_rfl) ?_
    have HRD:Hid (OB w.heap.size o wr.drew∧Below w.heap.size w wr.drew):=Lib.hid ⟨HR.out.2.1.below (Below.refl _ _).drew HR.out.2.1.lt,HR.out.2.2.drew⟩
    generalize wr.drew=W5 at hSW HRD ⊢
    refine J2 0 26 (.bool false) hSW ?_
    try simp only[Ja]
    refine J2 1 27 (.bool false) hSW ?_
    try simp only[Ja]
    refine JO 2 28 rfl rfl hSW ?_
    try simp only[Ja]
    refine JO 3 29 rfl rfl hSW ?_
    try simp only[Ja]
    refine JO 4 30 rfl rfl hSW ?_
    try simp only[Ja]
    refine JO 5 31 rfl rfl hSW ?_
    try simp only[Ja]
    refine JO 6 32 rfl rfl hSW ?_
    try simp only[Ja]
    refine J2 7 33 (.bool false) hSW ?_
    try simp only[Ja]
    refine J2 8 34 (.bool false) hSW ?_
    try simp only[Ja]
    refine JO 9 35 rfl rfl hSW ?_
    try simp only[Ja]
    refine JO 10 36 rfl rfl hSW ?_
    try simp only[Ja]
    refine JO 11 37 rfl rfl hSW ?_
    try simp only[Ja]
    refine JO 12 38 rfl rfl hSW ?_
    try simp only[Ja]
    refine JO 13 39 rfl rfl hSW ?_
    try simp only[Ja]
    refine JO 14 40 rfl rfl hSW ?_
    try simp only[Ja]
    refine JO 15 41 rfl rfl hSW ?_
    try simp only[Ja]
    refine JO 16 42 rfl rfl hSW ?_
    try simp only[Ja]
    refine J2 17 43 (.bool false) hSW ?_
    try simp only[Ja]
    refine J2 18 3 (.bool false) hSW ?_
    try simp only[Ja]
    refine Z3 (by kernel_rfl) ?_ _
    clear hSW cd cn
    go_wp2_with fail
    go_roundg (8 - (k+1))
    case measure=>rw[HG.out];omega
    case rel=>exact ⟨k+1,false,rfl,by first|rfl|simp,by simp,by omega,Lib.hid ⟨by rw[HS.out,HR.out.1];simp,HRD.out⟩⟩
   | true =>
    by_cases hd0:0≤d
    ·by_cases hd1:d<o.id.n
     ·have HQ:=Jh (And.intro hd0 hd1)
      have hSW:(fun W:World=>W.cell? ⟨w.heap.size,2+k,none⟩=some (.int .i64 d)∧W.cell? ⟨w.heap.size,0,none⟩=some (.int .i64 o.id.n)) wr.drew:=⟨cd,cn⟩
      go_upto_region 5 with fail
      refine Z6 (fun W:World=>W.cell? ⟨w.heap.size,2+k,none⟩=some (.int .i64 d)∧W.cell? ⟨w.heap.size,0,none⟩=some (.int .i64 o.id.n)) (fun _=>false) (by kernel_rfl) ?_
      have HRD:Hid (OB w.heap.size o wr.drew∧Below w.heap.size w wr.drew):=Lib.hid ⟨HR.out.2.1.below (Below.refl _ _).drew HR.out.2.1.lt,HR.out.2.2.drew⟩
      generalize wr.drew=W5 at hSW HRD ⊢
      refine J2 0 26 (.bool true) hSW ?_
      try simp only[Ja]
      refine J2 1 27 (.bool true) hSW ?_
      try simp only[Ja]
      refine J2 2 28 (.int .i64 k) hSW ?_
      try simp only[Ja]
      refine J2 3 29 (.pointer (some ⟨w.heap.size,2,none⟩)) hSW ?_
      try simp only[Ja]
      refine J2 4 30 (.pointer (some ⟨w.heap.size,2+k,none⟩)) hSW ?_
      try simp only[Ja]
      refine J2 5 31 (.int .i64 d) hSW ?_
      try simp only[Ja]
      refine J2 6 32 (.bool true) hSW ?_
      try simp only[Ja]
      refine J2 7 33 (.bool true) hSW ?_
      try simp only[Ja]
      refine J2 8 34 (.bool true) hSW ?_
      try simp only[Ja]
      refine J2 9 35 (.int .i64 k) hSW ?_
      try simp only[Ja]
      refine J2 10 36 (.pointer (some ⟨w.heap.size,2,none⟩)) hSW ?_
      try simp only[Ja]
      refine J2 11 37 (.pointer (some ⟨w.heap.size,2+k,none⟩)) hSW ?_
      try simp only[Ja]
      refine J2 12 38 (.int .i64 d) hSW ?_
      try simp only[Ja]
      refine J2 13 39 (.pointer (some ⟨w.heap.size,0,none⟩)) hSW ?_
      try simp only[Ja]
      refine J2 14 40 (.pointer (some ⟨w.heap.size,0,none⟩)) hSW ?_
      try simp only[Ja]
      refine J2 15 41 (.int .i64 o.id.n) hSW ?_
      try simp only[Ja]
      refine J2 16 42 (.bool true) hSW ?_
      try simp only[Ja]
      refine J2 17 43 (.bool true) hSW ?_
      try simp only[Ja]
      refine J2 18 3 (.bool true) hSW ?_
      try simp only[Ja]
      refine Z3 (by kernel_rfl) ?_ _
      clear hSW cd cn
      go_wp2_with fail
      go_roundg (8 - (k+1))
      case measure=>rw[HG.out];omega
      case rel=>exact ⟨k+1,true,rfl,by first|rfl|simp,by simp,by omega,Lib.hid ⟨by rw[HS.out,HR.out.1];simp[HQ.out.1,HQ.out.2],HRD.out⟩⟩
     ·have HQ:=Jh (And.intro hd0 hd1)
      have hSW:(fun W:World=>W.cell? ⟨w.heap.size,2+k,none⟩=some (.int .i64 d)∧W.cell? ⟨w.heap.size,0,none⟩=some (.int .i64 o.id.n)) wr.drew:=⟨cd,cn⟩
      go_upto_region 5 with fail
      refine Z6 (fun W:World=>W.cell? ⟨w.heap.size,2+k,none⟩=some (.int .i64 d)∧W.cell? ⟨w.heap.size,0,none⟩=some (.int .i64 o.id.n)) (fun _=>false) (by kernel_rfl) ?_
      have HRD:Hid (OB w.heap.size o wr.drew∧Below w.heap.size w wr.drew):=Lib.hid ⟨HR.out.2.1.below (Below.refl _ _).drew HR.out.2.1.lt,HR.out.2.2.drew⟩
      generalize wr.drew=W5 at hSW HRD ⊢
      refine J2 0 26 (.bool true) hSW ?_
      try simp only[Ja]
      refine J2 1 27 (.bool true) hSW ?_
      try simp only[Ja]
      refine J2 2 28 (.int .i64 k) hSW ?_
      try simp only[Ja]
      refine J2 3 29 (.pointer (some ⟨w.heap.size,2,none⟩)) hSW ?_
      try simp only[Ja]
      refine J2 4 30 (.pointer (some ⟨w.heap.size,2+k,none⟩)) hSW ?_
      try simp only[Ja]
      refine J2 5 31 (.int .i64 d) hSW ?_
      try simp only[Ja]
      refine J2 6 32 (.bool true) hSW ?_
      try simp only[Ja]
      refine J2 7 33 (.bool true) hSW ?_
      try simp only[Ja]
      refine J2 8 34 (.bool true) hSW ?_
      try simp only[Ja]
      refine J2 9 35 (.int .i64 k) hSW ?_
      try simp only[Ja]
      refine J2 10 36 (.pointer (some ⟨w.heap.size,2,none⟩)) hSW ?_
      try simp only[Ja]
      refine J2 11 37 (.pointer (some ⟨w.heap.size,2+k,none⟩)) hSW ?_
      try simp only[Ja]
      refine J2 12 38 (.int .i64 d) hSW ?_
      try simp only[Ja]
      refine J2 13 39 (.pointer (some ⟨w.heap.size,0,none⟩)) hSW ?_
      try simp only[Ja]
      refine J2 14 40 (.pointer (some ⟨w.heap.size,0,none⟩)) hSW ?_
      try simp only[Ja]
      refine J2 15 41 (.int .i64 o.id.n) hSW ?_
      try simp only[Ja]
      refine J2 16 42 (.bool false) hSW ?_
      try simp only[Ja]
      refine J2 17 43 (.bool false) hSW ?_
      try simp only[Ja]
      refine J2 18 3 (.bool false) hSW ?_
      try simp only[Ja]
      refine Z3 (by kernel_rfl) ?_ _
      clear hSW cd cn
      go_wp2_with fail
      go_roundg (8 - (k+1))
      case measure=>rw[HG.out];omega
      case rel=>exact ⟨k+1,false,rfl,by first|rfl|simp,by simp,by omega,Lib.hid ⟨by rw[HS.out,HR.out.1];simp[HQ.out.1,HQ.out.2],HRD.out⟩⟩
    ·have HQ:=Lib.hid hd0
     have hSW:(fun W:World=>W.cell? ⟨w.heap.size,2+k,none⟩=some (.int .i64 d)∧W.cell? ⟨w.heap.size,0,none⟩=some (.int .i64 o.id.n)) wr.drew:=⟨cd,cn⟩
     go_upto_region 5 with fail
     refine Z6 (fun W:World=>W.cell? ⟨w.heap.size,2+k,none⟩=some (.int .i64 d)∧W.cell? ⟨w.heap.size,0,none⟩=some (.int .i64 o.id.n)) (fun _=>false) (by kernel_rfl) ?_
     have HRD:Hid (OB w.heap.size o wr.drew∧Below w.heap.size w wr.drew):=Lib.hid ⟨HR.out.2.1.below (Below.refl _ _).drew HR.out.2.1.lt,HR.out.2.2.drew⟩
     generalize wr.drew=W5 at hSW HRD ⊢
     refine J2 0 26 (.bool true) hSW ?_
     try simp only[Ja]
     refine J2 1 27 (.bool true) hSW ?_
     try simp only[Ja]
     refine J2 2 28 (.int .i64 k) hSW ?_
     try simp only[Ja]
     refine J2 3 29 (.pointer (some ⟨w.heap.size,2,none⟩)) hSW ?_
     try simp only[Ja]
     refine J2 4 30 (.pointer (some ⟨w.heap.size,2+k,none⟩)) hSW ?_
     try simp only[Ja]
     refine J2 5 31 (.int .i64 d) hSW ?_
     try simp only[Ja]
     refine J2 6 32 (.bool false) hSW ?_
     try simp only[Ja]
     refine J2 7 33 (.bool false) hSW ?_
     try simp only[Ja]
     refine J2 8 34 (.bool false) hSW ?_
     try simp only[Ja]
     refine JO 9 35 rfl rfl hSW ?_
     try simp only[Ja]
     refine JO 10 36 rfl rfl hSW ?_
     try simp only[Ja]
     refine JO 11 37 rfl rfl hSW ?_
     try simp only[Ja]
     refine JO 12 38 rfl rfl hSW ?_
     try simp only[Ja]
     refine JO 13 39 rfl rfl hSW ?_
     try simp only[Ja]
     refine JO 14 40 rfl rfl hSW ?_
     try simp only[Ja]
     refine JO 15 41 rfl rfl hSW ?_
     try simp only[Ja]
     refine JO 16 42 rfl rfl hSW ?_
     try simp only[Ja]
     refine J2 17 43 (.bool false) hSW ?_
     try simp only[Ja]
     refine J2 18 3 (.bool false) hSW ?_
     try simp only[Ja]
     refine Z3 (by kernel_rfl) ?_ _
     clear hSW cd cn
     go_wp2_with fail
     go_roundg (8 - (k+1))
     case measure=>rw[HG.out];omega
     case rel=>exact ⟨k+1,false,rfl,by first|rfl|simp,by simp,by omega,Lib.hid ⟨by rw[HS.out,HR.out.1];rw[decide_eq_false (by have:=HQ.out;omega)];rfl,HRD.out⟩⟩
  ·obtain rfl:k=8:=by omega
   have hk1:¬ (8:Int)<8:=by omega
   have HBK:=Lib.hid HR.out.1
   have ho6:=HR.out.2.1
   have lo:=OB.whole ho6
   have hst:(Instr.storeAt 68 (.pointer (some ⟨wr.heap.size,0,none⟩)) (.agg o.cells.toArray)).run Tryz.prog (wr.alloc (.cells #[.int .i64 0,.int .i64 0,.int .i64 0,.int .i64 0,.int .i64 0,.int .i64 0,.int .i64 0,.int .i64 0,.int .i64 0,.int .i64 0,.int .i64 0,.int .i64 0,.int .i64 0,.int .i64 0,.int .i64 0,.int .i64 0,.int .i64 0,.string { data:=#[] },.string { data:=#[] },.string { data:=#[] },.int .i64 0,.int .i64 0,.bool false,.int .i64 0,.int .i64 0,.bool false] 68))=.ok () (wr.alloc (.cells o.cells.toArray 68)):=WS XO rfl (OpD.len o) (OpD.one o)
   have HST:=Lib.hid hst
   have HG6:Hid (RG w wr.heap.size o o (wr.alloc (.cells o.cells.toArray 68))∧w.heap.size<wr.heap.size):=Lib.hid ⟨⟨OB.alloc ho6 _,OB.new wr o,HR.out.2.2.alloc HR.out.2.2.size _⟩,ho6.lt⟩
   clear hst ho6 HR hk hlt HG
   go_upto_region 7 with (first|((with_reducible_and_instances refine Z9 (o:=⟨some 44,_,_,_,_,_⟩) (v:=.agg (o).cells.toArray) ?_ ?_ ?_);rfl;exact Z8 rfl rfl lo)|(refine Z2 (T:=68) rfl rfl rfl rfl HST.out ?_))
   clear lo HST hk1
   generalize wr.alloc (.cells o.cells.toArray 68)=W6 at HG6 ⊢
   generalize wr.heap.size=B2 at HG6 ⊢
   have c10:=OB.cell HG6.out.1.1 (j:=10) rfl
   by_cases hk1:o.kind=1
   ·go_upto_region 10 with fail
    have HK:=Lib.hid hk1
    clear hk1 c10
    have c11:=OB.cell HG6.out.1.1 (j:=11) rfl
    have c12:=OB.cell HG6.out.1.1 (j:=12) rfl
    go_wp2_with fail
    clear c11 c12
    refine (Z1l o.ref _).mono ?_
    rintro e w7 ⟨rfl,bb⟩
    have HG7:=Jh (And.intro (HG6.out.1.below bb) HG6.out.2)
    clear bb HG6
    generalize hdn:decide (o.ref=⟨0,0⟩)=dn
    have HDN:=Lib.hid hdn
    clear hdn
    have c11:=OB.cell HG7.out.1.1 (j:=11) rfl
    have c12:=OB.cell HG7.out.1.1 (j:=12) rfl
    have lo:=OB.whole HG7.out.1.1
    go_wp2_with ((with_reducible_and_instances refine Z9 (o:=⟨some 52,_,_,_,_,_⟩) (v:=.agg (o).cells.toArray) ?_ ?_ ?_);rfl;exact Z8 rfl rfl lo)
    clear c11 c12 lo
    refine (Ww o o.ref true _).mono ?_
    rintro e w8 ⟨rfl,bb⟩
    have HG8:=Jh (And.intro (HG7.out.1.below bb) HG7.out.2)
    clear bb HG7
    generalize hrv:(true && decide (o.ref=⟨0,0⟩) || o.may o.ref)=rv
    have HRV:=Lib.hid hrv
    clear hrv
    go_upto_region 12 with fail
    go_cut [3] from 56 to 88 (fun bv wx=>∃ bb:Bool,bv=.bool bb∧Hid ((bk && o.okI)=bb∧RG w B2 o o wx∧w.heap.size<B2))
    case first =>
     have c13:=OB.cell HG8.out.1.1 (j:=13) rfl
     have c14:=OB.cell HG8.out.1.1 (j:=14) rfl
     cases bk with
     | false =>
      have HOK:Hid ((false && o.okI)=false):=Jh (by rfl)
      go_wp2_with fail
      go_meet
      case rel=>exact ⟨false,by first|rfl|(simp;omega),Lib.hid ⟨HOK.out,HG8.out.1,HG8.out.2⟩⟩
     | true =>
      cases rv with
      | false =>
       have HOK:Hid ((true && o.okI)=false):=Jh (by rw[V8 o HRV.out,HDN.out];simp)
       go_wp2_with fail
       go_meet
       case rel=>exact ⟨false,by first|rfl|(simp;omega),Lib.hid ⟨HOK.out,HG8.out.1,HG8.out.2⟩⟩
      | true =>
       by_cases s2:o.side=2
       ·skip
        by_cases g0:o.ch=0
        ·skip
         have HOK:Hid ((true && o.okI)=true):=Jh (by rw[V8 o HRV.out,HDN.out,decide_eq_true (show o.side=2 by omega),show (decide (o.ch=0) || decide (32≤o.ch) && decide (o.ch≤126))=true by simp;omega];simp)
         go_wp2_with fail
         go_meet
         case rel=>exact ⟨true,by first|rfl|(simp;omega),Lib.hid ⟨HOK.out,HG8.out.1,HG8.out.2⟩⟩
        ·skip
         by_cases g1:(32:Int)≤o.ch
         ·skip
          by_cases g2:o.ch≤126
          ·skip
           have HOK:Hid ((true && o.okI)=true):=Jh (by rw[V8 o HRV.out,HDN.out,decide_eq_true (show o.side=2 by omega),show (decide (o.ch=0) || decide (32≤o.ch) && decide (o.ch≤126))=true by simp;omega];simp)
           go_wp2_with fail
           go_meet
           case rel=>exact ⟨true,by first|rfl|(simp;omega),Lib.hid ⟨HOK.out,HG8.out.1,HG8.out.2⟩⟩
          ·skip
           have HOK:Hid ((true && o.okI)=false):=Jh (by rw[V8 o HRV.out,HDN.out,decide_eq_true (show o.side=2 by omega),show (decide (o.ch=0) || decide (32≤o.ch) && decide (o.ch≤126))=false by simp;omega];simp)
           go_wp2_with fail
           go_meet
           case rel=>exact ⟨false,by first|rfl|(simp;omega),Lib.hid ⟨HOK.out,HG8.out.1,HG8.out.2⟩⟩
         ·skip
          have HOK:Hid ((true && o.okI)=false):=Jh (by rw[V8 o HRV.out,HDN.out,decide_eq_true (show o.side=2 by omega),show (decide (o.ch=0) || decide (32≤o.ch) && decide (o.ch≤126))=false by simp;omega];simp)
          go_wp2_with fail
          go_meet
          case rel=>exact ⟨false,by first|rfl|(simp;omega),Lib.hid ⟨HOK.out,HG8.out.1,HG8.out.2⟩⟩
       ·skip
        by_cases s1:o.side=1
        ·skip
         cases dn with
         | false =>
          by_cases g0:o.ch=0
          ·skip
           have HOK:Hid ((true && o.okI)=true):=Jh (by rw[V8 o HRV.out,HDN.out,decide_eq_false (show ¬ o.side=2 by omega),decide_eq_true (show o.side=1 by omega),show (decide (o.ch=0) || decide (32≤o.ch) && decide (o.ch≤126))=true by simp;omega];simp)
           go_wp2_with fail
           go_meet
           case rel=>exact ⟨true,by first|rfl|(simp;omega),Lib.hid ⟨HOK.out,HG8.out.1,HG8.out.2⟩⟩
          ·skip
           by_cases g1:(32:Int)≤o.ch
           ·skip
            by_cases g2:o.ch≤126
            ·skip
             have HOK:Hid ((true && o.okI)=true):=Jh (by rw[V8 o HRV.out,HDN.out,decide_eq_false (show ¬ o.side=2 by omega),decide_eq_true (show o.side=1 by omega),show (decide (o.ch=0) || decide (32≤o.ch) && decide (o.ch≤126))=true by simp;omega];simp)
             go_wp2_with fail
             go_meet
             case rel=>exact ⟨true,by first|rfl|(simp;omega),Lib.hid ⟨HOK.out,HG8.out.1,HG8.out.2⟩⟩
            ·skip
             have HOK:Hid ((true && o.okI)=false):=Jh (by rw[V8 o HRV.out,HDN.out,decide_eq_false (show ¬ o.side=2 by omega),decide_eq_true (show o.side=1 by omega),show (decide (o.ch=0) || decide (32≤o.ch) && decide (o.ch≤126))=false by simp;omega];simp)
             go_wp2_with fail
             go_meet
             case rel=>exact ⟨false,by first|rfl|(simp;omega),Lib.hid ⟨HOK.out,HG8.out.1,HG8.out.2⟩⟩
           ·skip
            have HOK:Hid ((true && o.okI)=false):=Jh (by rw[V8 o HRV.out,HDN.out,decide_eq_false (show ¬ o.side=2 by omega),decide_eq_true (show o.side=1 by omega),show (decide (o.ch=0) || decide (32≤o.ch) && decide (o.ch≤126))=false by simp;omega];simp)
            go_wp2_with fail
            go_meet
            case rel=>exact ⟨false,by first|rfl|(simp;omega),Lib.hid ⟨HOK.out,HG8.out.1,HG8.out.2⟩⟩
         | true =>
          have HOK:Hid ((true && o.okI)=false):=Jh (by rw[V8 o HRV.out,HDN.out,decide_eq_false (show ¬ o.side=2 by omega),decide_eq_true (show o.side=1 by omega)];simp)
          go_wp2_with fail
          go_meet
          case rel=>exact ⟨false,by first|rfl|(simp;omega),Lib.hid ⟨HOK.out,HG8.out.1,HG8.out.2⟩⟩
        ·skip
         have HOK:Hid ((true && o.okI)=false):=Jh (by rw[V8 o HRV.out,HDN.out,decide_eq_false (show ¬ o.side=2 by omega),decide_eq_false (show ¬ o.side=1 by omega)];simp)
         go_wp2_with fail
         go_meet
         case rel=>exact ⟨false,by first|rfl|(simp;omega),Lib.hid ⟨HOK.out,HG8.out.1,HG8.out.2⟩⟩
    case rest =>
     clear HG8
     obtain ⟨bb,rfl,HC⟩:=hcut
     have HGC:=Jh (And.intro HC.out.2.1 HC.out.2.2)
     have HR0:Hid (o.right=(bb && decide (o.keepI=o))):=Jh (by rw[VJ,HBK.out,Z0I HK.out,←Bool.and_assoc,HC.out.1])
     clear HC HBK HK
     cases bb with
     | false =>
      go_upto_region 13 with fail
      obtain ⟨W9,hst,hob,hxt⟩:=OB.store HGC.out.1.2.1 (T:=68) XO.size (off:=0) (v:=.agg (o.keepI).cells.toArray) (vs:=(o.keepI).cells) rfl rfl (OpD.one _) (by omega) (o.keepI) rfl
      have HGX:=Jh (And.intro (HGC.out.1.ext hxt HGC.out.2 hob) HGC.out.2)
      have c0:=OB.cell HGC.out.1.1 (j:=0) rfl
      have c1:=OB.cell HGC.out.1.1 (j:=1) rfl
      have c2:=OB.cell HGC.out.1.1 (j:=2) rfl
      have c3:=OB.cell HGC.out.1.1 (j:=3) rfl
      have c4:=OB.cell HGC.out.1.1 (j:=4) rfl
      have c5:=OB.cell HGC.out.1.1 (j:=5) rfl
      have c6:=OB.cell HGC.out.1.1 (j:=6) rfl
      have c7:=OB.cell HGC.out.1.1 (j:=7) rfl
      have c8:=OB.cell HGC.out.1.1 (j:=8) rfl
      have c9:=OB.cell HGC.out.1.1 (j:=9) rfl
      have c10:=OB.cell HGC.out.1.1 (j:=10) rfl
      have c11:=OB.cell HGC.out.1.1 (j:=11) rfl
      have c12:=OB.cell HGC.out.1.1 (j:=12) rfl
      have c13:=OB.cell HGC.out.1.1 (j:=13) rfl
      have c14:=OB.cell HGC.out.1.1 (j:=14) rfl
      clear hob hxt HGC
      go_upto_region 37 with (refine Z2 (T:=68) rfl rfl rfl rfl hst ?_)
      clear c0 c1 c2 c3 c4 c5 c6 c7 c8 c9 c10 c11 c12 c13 c14 hst
      have HV:Hid (o.right=false):=Jh (by rw[HR0.out,Bool.false_and])
      go_wp2_with fail
      go_ret
      exact ⟨by rw[HV.out];rfl,HGX.out.1.2.2⟩
     | true =>
      go_upto_region 13 with fail
      obtain ⟨W9,hst,hob,hxt⟩:=OB.store HGC.out.1.2.1 (T:=68) XO.size (off:=0) (v:=.agg (o.keepI).cells.toArray) (vs:=(o.keepI).cells) rfl rfl (OpD.one _) (by omega) (o.keepI) rfl
      have HGX:=Jh (And.intro (HGC.out.1.ext hxt HGC.out.2 hob) HGC.out.2)
      have c0:=OB.cell HGC.out.1.1 (j:=0) rfl
      have c1:=OB.cell HGC.out.1.1 (j:=1) rfl
      have c2:=OB.cell HGC.out.1.1 (j:=2) rfl
      have c3:=OB.cell HGC.out.1.1 (j:=3) rfl
      have c4:=OB.cell HGC.out.1.1 (j:=4) rfl
      have c5:=OB.cell HGC.out.1.1 (j:=5) rfl
      have c6:=OB.cell HGC.out.1.1 (j:=6) rfl
      have c7:=OB.cell HGC.out.1.1 (j:=7) rfl
      have c8:=OB.cell HGC.out.1.1 (j:=8) rfl
      have c9:=OB.cell HGC.out.1.1 (j:=9) rfl
      have c10:=OB.cell HGC.out.1.1 (j:=10) rfl
      have c11:=OB.cell HGC.out.1.1 (j:=11) rfl
      have c12:=OB.cell HGC.out.1.1 (j:=12) rfl
      have c13:=OB.cell HGC.out.1.1 (j:=13) rfl
      have c14:=OB.cell HGC.out.1.1 (j:=14) rfl
      clear hob hxt HGC
      go_upto_region 37 with (refine Z2 (T:=68) rfl rfl rfl rfl hst ?_)
      clear c0 c1 c2 c3 c4 c5 c6 c7 c8 c9 c10 c11 c12 c13 c14 hst
      obtain ⟨eb,heb⟩:∃ eb,eb=decide (o.keepI=o):=⟨_,rfl⟩
      have HV:Hid (o.right=eb):=Jh (by rw[HR0.out,Bool.true_and,heb])
      have lx:=OB.whole HGX.out.1.2.1
      have lo:=OB.whole HGX.out.1.1
      have heq:=fun W=>Xr (o.keepI) o W
      unfold OpD.val at heq
      rw[←heb] at heq
      clear heb
      go_wp2_with (first|((with_reducible_and_instances refine Z9 (o:=⟨some 247,_,_,_,_,_⟩) (v:=.agg (o.keepI).cells.toArray) ?_ ?_ ?_);rfl;exact Z8 rfl rfl lx)|((with_reducible_and_instances refine Z9 (o:=⟨some 248,_,_,_,_,_⟩) (v:=.agg (o).cells.toArray) ?_ ?_ ?_);rfl;exact Z8 rfl rfl lo))
      go_ret
      exact ⟨by rw[HV.out];rfl,HGX.out.1.2.2⟩
   by_cases hk2:o.kind=2
   ·go_upto_region 15 with fail
    have HK:=Lib.hid hk2
    clear hk2 c10
    have c11:=OB.cell HG6.out.1.1 (j:=11) rfl
    have c12:=OB.cell HG6.out.1.1 (j:=12) rfl
    have lo:=OB.whole HG6.out.1.1
    go_wp2_with ((with_reducible_and_instances refine Z9 (o:=⟨some 104,_,_,_,_,_⟩) (v:=.agg (o).cells.toArray) ?_ ?_ ?_);rfl;exact Z8 rfl rfl lo)
    clear c11 c12 lo
    refine (Ww o o.ref false _).mono ?_
    rintro e w9 ⟨rfl,bb⟩
    have HG9:=Jh (And.intro (HG6.out.1.below bb) HG6.out.2)
    clear bb HG6
    generalize hrv:(false && decide (o.ref=⟨0,0⟩) || o.may o.ref)=rv
    have HRV:=Lib.hid hrv
    clear hrv
    go_upto_region 16 with fail
    go_cut [3] from 108 to 111 (fun bv wx=>∃ bb:Bool,bv=.bool bb∧Hid ((bk && o.may o.ref)=bb∧RG w B2 o o wx∧w.heap.size<B2))
    case first =>
     cases bk with
     | false =>
      have HOK:Hid ((false && o.may o.ref)=false):=Jh (by rfl)
      go_wp2_with fail
      go_meet
      case rel=>exact ⟨false,by first|rfl|(simp;omega),Lib.hid ⟨HOK.out,HG9.out.1,HG9.out.2⟩⟩
     | true =>
      cases rv with
      | false =>
       have HOK:Hid ((true && o.may o.ref)=false):=Jh (by have h:=HRV.out;simpa using h)
       go_wp2_with fail
       go_meet
       case rel=>exact ⟨false,by first|rfl|(simp;omega),Lib.hid ⟨HOK.out,HG9.out.1,HG9.out.2⟩⟩
      | true =>
       have HOK:Hid ((true && o.may o.ref)=true):=Jh (by have h:=HRV.out;simpa using h)
       go_wp2_with fail
       go_meet
       case rel=>exact ⟨true,by first|rfl|(simp;omega),Lib.hid ⟨HOK.out,HG9.out.1,HG9.out.2⟩⟩
    case rest =>
     clear HG9
     obtain ⟨bb,rfl,HC⟩:=hcut
     have HGC:=Jh (And.intro HC.out.2.1 HC.out.2.2)
     have HR0:Hid (o.right=(bb && decide (o.keepR=o))):=Jh (by rw[VJ,HBK.out,Z0Z HK.out,←Bool.and_assoc,HC.out.1])
     clear HC HBK HK
     cases bb with
     | false =>
      go_upto_region 17 with fail
      obtain ⟨W9,hst,hob,hxt⟩:=OB.store HGC.out.1.2.1 (T:=68) XO.size (off:=0) (v:=.agg (o.keepR).cells.toArray) (vs:=(o.keepR).cells) rfl rfl (OpD.one _) (by omega) (o.keepR) rfl
      have HGX:=Jh (And.intro (HGC.out.1.ext hxt HGC.out.2 hob) HGC.out.2)
      have c0:=OB.cell HGC.out.1.1 (j:=0) rfl
      have c1:=OB.cell HGC.out.1.1 (j:=1) rfl
      have c2:=OB.cell HGC.out.1.1 (j:=2) rfl
      have c3:=OB.cell HGC.out.1.1 (j:=3) rfl
      have c4:=OB.cell HGC.out.1.1 (j:=4) rfl
      have c5:=OB.cell HGC.out.1.1 (j:=5) rfl
      have c6:=OB.cell HGC.out.1.1 (j:=6) rfl
      have c7:=OB.cell HGC.out.1.1 (j:=7) rfl
      have c8:=OB.cell HGC.out.1.1 (j:=8) rfl
      have c9:=OB.cell HGC.out.1.1 (j:=9) rfl
      have c10:=OB.cell HGC.out.1.1 (j:=10) rfl
      have c11:=OB.cell HGC.out.1.1 (j:=11) rfl
      have c12:=OB.cell HGC.out.1.1 (j:=12) rfl
      clear hob hxt HGC
      go_upto_region 37 with (refine Z2 (T:=68) rfl rfl rfl rfl hst ?_)
      clear c0 c1 c2 c3 c4 c5 c6 c7 c8 c9 c10 c11 c12 hst
      have HV:Hid (o.right=false):=Jh (by rw[HR0.out,Bool.false_and])
      go_wp2_with fail
      go_ret
      exact ⟨by rw[HV.out];rfl,HGX.out.1.2.2⟩
     | true =>
      go_upto_region 17 with fail
      obtain ⟨W9,hst,hob,hxt⟩:=OB.store HGC.out.1.2.1 (T:=68) XO.size (off:=0) (v:=.agg (o.keepR).cells.toArray) (vs:=(o.keepR).cells) rfl rfl (OpD.one _) (by omega) (o.keepR) rfl
      have HGX:=Jh (And.intro (HGC.out.1.ext hxt HGC.out.2 hob) HGC.out.2)
      have c0:=OB.cell HGC.out.1.1 (j:=0) rfl
      have c1:=OB.cell HGC.out.1.1 (j:=1) rfl
      have c2:=OB.cell HGC.out.1.1 (j:=2) rfl
      have c3:=OB.cell HGC.out.1.1 (j:=3) rfl
      have c4:=OB.cell HGC.out.1.1 (j:=4) rfl
      have c5:=OB.cell HGC.out.1.1 (j:=5) rfl
      have c6:=OB.cell HGC.out.1.1 (j:=6) rfl
      have c7:=OB.cell HGC.out.1.1 (j:=7) rfl
      have c8:=OB.cell HGC.out.1.1 (j:=8) rfl
      have c9:=OB.cell HGC.out.1.1 (j:=9) rfl
      have c10:=OB.cell HGC.out.1.1 (j:=10) rfl
      have c11:=OB.cell HGC.out.1.1 (j:=11) rfl
      have c12:=OB.cell HGC.out.1.1 (j:=12) rfl
      clear hob hxt HGC
      go_upto_region 37 with (refine Z2 (T:=68) rfl rfl rfl rfl hst ?_)
      clear c0 c1 c2 c3 c4 c5 c6 c7 c8 c9 c10 c11 c12 hst
      obtain ⟨eb,heb⟩:∃ eb,eb=decide (o.keepR=o):=⟨_,rfl⟩
      have HV:Hid (o.right=eb):=Jh (by rw[HR0.out,Bool.true_and,heb])
      have lx:=OB.whole HGX.out.1.2.1
      have lo:=OB.whole HGX.out.1.1
      have heq:=fun W=>Xr (o.keepR) o W
      unfold OpD.val at heq
      rw[←heb] at heq
      clear heb
      go_wp2_with (first|((with_reducible_and_instances refine Z9 (o:=⟨some 247,_,_,_,_,_⟩) (v:=.agg (o.keepR).cells.toArray) ?_ ?_ ?_);rfl;exact Z8 rfl rfl lx)|((with_reducible_and_instances refine Z9 (o:=⟨some 248,_,_,_,_,_⟩) (v:=.agg (o).cells.toArray) ?_ ?_ ?_);rfl;exact Z8 rfl rfl lo))
      go_ret
      exact ⟨by rw[HV.out];rfl,HGX.out.1.2.2⟩
   by_cases hk3:o.kind=3
   ·go_upto_region 19 with fail
    have HK:=Lib.hid hk3
    clear hk3 c10
    have c11:=OB.cell HG6.out.1.1 (j:=11) rfl
    have c12:=OB.cell HG6.out.1.1 (j:=12) rfl
    have lo:=OB.whole HG6.out.1.1
    go_wp2_with ((with_reducible_and_instances refine Z9 (o:=⟨some 123,_,_,_,_,_⟩) (v:=.agg (o).cells.toArray) ?_ ?_ ?_);rfl;exact Z8 rfl rfl lo)
    clear c11 c12 lo
    refine (Ww o o.ref false _).mono ?_
    rintro e w10 ⟨rfl,bb⟩
    have HG10:=Jh (And.intro (HG6.out.1.below bb) HG6.out.2)
    clear bb HG6
    generalize hrv:(false && decide (o.ref=⟨0,0⟩) || o.may o.ref)=rv
    have HRV:=Lib.hid hrv
    clear hrv
    have c15:=OB.cell HG10.out.1.1 (j:=15) rfl
    have c16:=OB.cell HG10.out.1.1 (j:=16) rfl
    have lo:=OB.whole HG10.out.1.1
    go_wp2_with ((with_reducible_and_instances refine Z9 (o:=⟨some 127,_,_,_,_,_⟩) (v:=.agg (o).cells.toArray) ?_ ?_ ?_);rfl;exact Z8 rfl rfl lo)
    clear c15 c16 lo
    refine (Ww o o.under true _).mono ?_
    rintro e w11 ⟨rfl,bb⟩
    have HG11:=Jh (And.intro (HG10.out.1.below bb) HG10.out.2)
    clear bb HG10
    generalize huv:(true && decide (o.under=⟨0,0⟩) || o.may o.under)=uv
    have HUV:=Lib.hid huv
    clear huv
    have c17:=OB.cell HG11.out.1.1 (j:=17) rfl
    go_wp2_with fail
    clear c17
    refine (Z6Y o.key HFIT.out.1 _).mono ?_
    rintro e w' ⟨rfl,rfl⟩
    generalize hky:YS o.key=ky
    have HKY:=Lib.hid hky
    clear hky
    go_upto_region 22 with fail
    go_cut [3] from 134 to 150 (fun bv wx=>∃ bb:Bool,bv=.bool bb∧Hid ((bk && o.okM)=bb∧RG w B2 o o wx∧w.heap.size<B2))
    case first =>
     have c11:=OB.cell HG11.out.1.1 (j:=11) rfl
     have c12:=OB.cell HG11.out.1.1 (j:=12) rfl
     have c15:=OB.cell HG11.out.1.1 (j:=15) rfl
     have c16:=OB.cell HG11.out.1.1 (j:=16) rfl
     have hne:=fun W=>Z4J o.under o.ref W
     generalize hdu:decide (o.under=o.ref)=du at hne
     have HDU:=Lib.hid hdu
     clear hdu
     cases bk with
     | false =>
      have HOK:Hid ((false && o.okM)=false):=Jh (by rfl)
      go_wp2_with fail
      go_meet
      case rel=>exact ⟨false,by first|rfl|(simp;omega),Lib.hid ⟨HOK.out,HG11.out.1,HG11.out.2⟩⟩
     | true =>
      cases rv with
      | false =>
       have HOK:Hid ((true && o.okM)=false):=Jh (by have h1:=HRV.out;have h2:=HUV.out;have h3:=HKY.out;have h4:=HDU.out;unfold OpD.okM;simp only[Bool.false_and,Bool.false_or] at h1;simp only[Bool.true_and] at h2;rw[h1,h2,h3,h4];rfl)
       go_wp2_with fail
       go_meet
       case rel=>exact ⟨false,by first|rfl|(simp;omega),Lib.hid ⟨HOK.out,HG11.out.1,HG11.out.2⟩⟩
      | true =>
       cases uv with
       | false =>
        have HOK:Hid ((true && o.okM)=false):=Jh (by have h1:=HRV.out;have h2:=HUV.out;have h3:=HKY.out;have h4:=HDU.out;unfold OpD.okM;simp only[Bool.false_and,Bool.false_or] at h1;simp only[Bool.true_and] at h2;rw[h1,h2,h3,h4];rfl)
        go_wp2_with fail
        go_meet
        case rel=>exact ⟨false,by first|rfl|(simp;omega),Lib.hid ⟨HOK.out,HG11.out.1,HG11.out.2⟩⟩
       | true =>
        cases du with
        | false =>
         cases ky with
         | false =>
          have HOK:Hid ((true && o.okM)=false):=Jh (by have h1:=HRV.out;have h2:=HUV.out;have h3:=HKY.out;have h4:=HDU.out;unfold OpD.okM;simp only[Bool.false_and,Bool.false_or] at h1;simp only[Bool.true_and] at h2;rw[h1,h2,h3,h4];rfl)
          go_wp2_with fail
          go_meet
          case rel=>exact ⟨false,by first|rfl|(simp;omega),Lib.hid ⟨HOK.out,HG11.out.1,HG11.out.2⟩⟩
         | true =>
          have HOK:Hid ((true && o.okM)=true):=Jh (by have h1:=HRV.out;have h2:=HUV.out;have h3:=HKY.out;have h4:=HDU.out;unfold OpD.okM;simp only[Bool.false_and,Bool.false_or] at h1;simp only[Bool.true_and] at h2;rw[h1,h2,h3,h4];rfl)
          go_wp2_with fail
          go_meet
          case rel=>exact ⟨true,by first|rfl|(simp;omega),Lib.hid ⟨HOK.out,HG11.out.1,HG11.out.2⟩⟩
        | true =>
         have HOK:Hid ((true && o.okM)=false):=Jh (by have h1:=HRV.out;have h2:=HUV.out;have h3:=HKY.out;have h4:=HDU.out;unfold OpD.okM;simp only[Bool.false_and,Bool.false_or] at h1;simp only[Bool.true_and] at h2;rw[h1,h2,h3,h4];rfl)
         go_wp2_with fail
         go_meet
         case rel=>exact ⟨false,by first|rfl|(simp;omega),Lib.hid ⟨HOK.out,HG11.out.1,HG11.out.2⟩⟩
    case rest =>
     clear HG11
     obtain ⟨bb,rfl,HC⟩:=hcut
     have HGC:=Jh (And.intro HC.out.2.1 HC.out.2.2)
     have HR0:Hid (o.right=(bb && decide (o.keepM=o))):=Jh (by rw[VJ,HBK.out,Z17 HK.out,←Bool.and_assoc,HC.out.1])
     clear HC HBK HK
     cases bb with
     | false =>
      go_upto_region 23 with fail
      obtain ⟨W9,hst,hob,hxt⟩:=OB.store HGC.out.1.2.1 (T:=68) XO.size (off:=0) (v:=.agg (o.keepM).cells.toArray) (vs:=(o.keepM).cells) rfl rfl (OpD.one _) (by omega) (o.keepM) rfl
      have HGX:=Jh (And.intro (HGC.out.1.ext hxt HGC.out.2 hob) HGC.out.2)
      have c0:=OB.cell HGC.out.1.1 (j:=0) rfl
      have c1:=OB.cell HGC.out.1.1 (j:=1) rfl
      have c2:=OB.cell HGC.out.1.1 (j:=2) rfl
      have c3:=OB.cell HGC.out.1.1 (j:=3) rfl
      have c4:=OB.cell HGC.out.1.1 (j:=4) rfl
      have c5:=OB.cell HGC.out.1.1 (j:=5) rfl
      have c6:=OB.cell HGC.out.1.1 (j:=6) rfl
      have c7:=OB.cell HGC.out.1.1 (j:=7) rfl
      have c8:=OB.cell HGC.out.1.1 (j:=8) rfl
      have c9:=OB.cell HGC.out.1.1 (j:=9) rfl
      have c10:=OB.cell HGC.out.1.1 (j:=10) rfl
      have c11:=OB.cell HGC.out.1.1 (j:=11) rfl
      have c12:=OB.cell HGC.out.1.1 (j:=12) rfl
      have c15:=OB.cell HGC.out.1.1 (j:=15) rfl
      have c16:=OB.cell HGC.out.1.1 (j:=16) rfl
      have c17:=OB.cell HGC.out.1.1 (j:=17) rfl
      clear hob hxt HGC
      go_upto_region 37 with (refine Z2 (T:=68) rfl rfl rfl rfl hst ?_)
      clear c0 c1 c2 c3 c4 c5 c6 c7 c8 c9 c10 c11 c12 c15 c16 c17 hst
      have HV:Hid (o.right=false):=Jh (by rw[HR0.out,Bool.false_and])
      go_wp2_with fail
      go_ret
      exact ⟨by rw[HV.out];rfl,HGX.out.1.2.2⟩
     | true =>
      go_upto_region 23 with fail
      obtain ⟨W9,hst,hob,hxt⟩:=OB.store HGC.out.1.2.1 (T:=68) XO.size (off:=0) (v:=.agg (o.keepM).cells.toArray) (vs:=(o.keepM).cells) rfl rfl (OpD.one _) (by omega) (o.keepM) rfl
      have HGX:=Jh (And.intro (HGC.out.1.ext hxt HGC.out.2 hob) HGC.out.2)
      have c0:=OB.cell HGC.out.1.1 (j:=0) rfl
      have c1:=OB.cell HGC.out.1.1 (j:=1) rfl
      have c2:=OB.cell HGC.out.1.1 (j:=2) rfl
      have c3:=OB.cell HGC.out.1.1 (j:=3) rfl
      have c4:=OB.cell HGC.out.1.1 (j:=4) rfl
      have c5:=OB.cell HGC.out.1.1 (j:=5) rfl
      have c6:=OB.cell HGC.out.1.1 (j:=6) rfl
      have c7:=OB.cell HGC.out.1.1 (j:=7) rfl
      have c8:=OB.cell HGC.out.1.1 (j:=8) rfl
      have c9:=OB.cell HGC.out.1.1 (j:=9) rfl
      have c10:=OB.cell HGC.out.1.1 (j:=10) rfl
      have c11:=OB.cell HGC.out.1.1 (j:=11) rfl
      have c12:=OB.cell HGC.out.1.1 (j:=12) rfl
      have c15:=OB.cell HGC.out.1.1 (j:=15) rfl
      have c16:=OB.cell HGC.out.1.1 (j:=16) rfl
      have c17:=OB.cell HGC.out.1.1 (j:=17) rfl
      clear hob hxt HGC
      go_upto_region 37 with (refine Z2 (T:=68) rfl rfl rfl rfl hst ?_)
      clear c0 c1 c2 c3 c4 c5 c6 c7 c8 c9 c10 c11 c12 c15 c16 c17 hst
      obtain ⟨eb,heb⟩:∃ eb,eb=decide (o.keepM=o):=⟨_,rfl⟩
      have HV:Hid (o.right=eb):=Jh (by rw[HR0.out,Bool.true_and,heb])
      have lx:=OB.whole HGX.out.1.2.1
      have lo:=OB.whole HGX.out.1.1
      have heq:=fun W=>Xr (o.keepM) o W
      unfold OpD.val at heq
      rw[←heb] at heq
      clear heb
      go_wp2_with (first|((with_reducible_and_instances refine Z9 (o:=⟨some 247,_,_,_,_,_⟩) (v:=.agg (o.keepM).cells.toArray) ?_ ?_ ?_);rfl;exact Z8 rfl rfl lx)|((with_reducible_and_instances refine Z9 (o:=⟨some 248,_,_,_,_,_⟩) (v:=.agg (o).cells.toArray) ?_ ?_ ?_);rfl;exact Z8 rfl rfl lo))
      go_ret
      exact ⟨by rw[HV.out];rfl,HGX.out.1.2.2⟩
   by_cases hk4:o.kind=4
   ·go_upto_region 25 with fail
    have HK:=Lib.hid hk4
    clear hk4 c10
    have c11:=OB.cell HG6.out.1.1 (j:=11) rfl
    have c12:=OB.cell HG6.out.1.1 (j:=12) rfl
    have lo:=OB.whole HG6.out.1.1
    go_wp2_with ((with_reducible_and_instances refine Z9 (o:=⟨some 166,_,_,_,_,_⟩) (v:=.agg (o).cells.toArray) ?_ ?_ ?_);rfl;exact Z8 rfl rfl lo)
    clear c11 c12 lo
    refine (Ww o o.ref false _).mono ?_
    rintro e w12 ⟨rfl,bb⟩
    have HG12:=Jh (And.intro (HG6.out.1.below bb) HG6.out.2)
    clear bb HG6
    generalize hrv:(false && decide (o.ref=⟨0,0⟩) || o.may o.ref)=rv
    have HRV:=Lib.hid hrv
    clear hrv
    have c18:=OB.cell HG12.out.1.1 (j:=18) rfl
    go_wp2_with fail
    clear c18
    refine (Z2a o.name HFIT.out.2.1 _).mono ?_
    rintro e w' ⟨rfl,rfl⟩
    generalize hnv:YG o.name=nv
    have HNV:=Lib.hid hnv
    clear hnv
    have c19:=OB.cell HG12.out.1.1 (j:=19) rfl
    go_wp2_with fail
    clear c19
    refine (Z0f o.value HFIT.out.2.2 _).mono ?_
    rintro e w' ⟨rfl,rfl⟩
    generalize hvv:YB o.value=vv
    have HVV:=Lib.hid hvv
    clear hvv
    go_upto_region 28 with fail
    go_cut [3] from 176 to 185 (fun bv wx=>∃ bb:Bool,bv=.bool bb∧Hid ((bk && o.okS)=bb∧RG w B2 o o wx∧w.heap.size<B2))
    case first =>
     cases bk with
     | false =>
      have HOK:Hid ((false && o.okS)=false):=Jh (by rfl)
      go_wp2_with fail
      go_meet
      case rel=>exact ⟨false,by first|rfl|(simp;omega),Lib.hid ⟨HOK.out,HG12.out.1,HG12.out.2⟩⟩
     | true =>
      cases rv with
      | false =>
       have HOK:Hid ((true && o.okS)=false):=Jh (by have h1:=HRV.out;have h2:=HNV.out;have h3:=HVV.out;unfold OpD.okS;simp only[Bool.false_and,Bool.false_or] at h1;rw[h1,h2,h3];rfl)
       go_wp2_with fail
       go_meet
       case rel=>exact ⟨false,by first|rfl|(simp;omega),Lib.hid ⟨HOK.out,HG12.out.1,HG12.out.2⟩⟩
      | true =>
       cases nv with
       | false =>
        have HOK:Hid ((true && o.okS)=false):=Jh (by have h1:=HRV.out;have h2:=HNV.out;have h3:=HVV.out;unfold OpD.okS;simp only[Bool.false_and,Bool.false_or] at h1;rw[h1,h2,h3];rfl)
        go_wp2_with fail
        go_meet
        case rel=>exact ⟨false,by first|rfl|(simp;omega),Lib.hid ⟨HOK.out,HG12.out.1,HG12.out.2⟩⟩
       | true =>
        cases vv with
        | false =>
         have HOK:Hid ((true && o.okS)=false):=Jh (by have h1:=HRV.out;have h2:=HNV.out;have h3:=HVV.out;unfold OpD.okS;simp only[Bool.false_and,Bool.false_or] at h1;rw[h1,h2,h3];rfl)
         go_wp2_with fail
         go_meet
         case rel=>exact ⟨false,by first|rfl|(simp;omega),Lib.hid ⟨HOK.out,HG12.out.1,HG12.out.2⟩⟩
        | true =>
         have HOK:Hid ((true && o.okS)=true):=Jh (by have h1:=HRV.out;have h2:=HNV.out;have h3:=HVV.out;unfold OpD.okS;simp only[Bool.false_and,Bool.false_or] at h1;rw[h1,h2,h3];rfl)
         go_wp2_with fail
         go_meet
         case rel=>exact ⟨true,by first|rfl|(simp;omega),Lib.hid ⟨HOK.out,HG12.out.1,HG12.out.2⟩⟩
    case rest =>
     clear HG12
     obtain ⟨bb,rfl,HC⟩:=hcut
     have HGC:=Jh (And.intro HC.out.2.1 HC.out.2.2)
     have HR0:Hid (o.right=(bb && decide (o.keepS=o))):=Jh (by rw[VJ,HBK.out,S8 HK.out,←Bool.and_assoc,HC.out.1])
     clear HC HBK HK
     cases bb with
     | false =>
      go_upto_region 29 with fail
      obtain ⟨W9,hst,hob,hxt⟩:=OB.store HGC.out.1.2.1 (T:=68) XO.size (off:=0) (v:=.agg (o.keepS).cells.toArray) (vs:=(o.keepS).cells) rfl rfl (OpD.one _) (by omega) (o.keepS) rfl
      have HGX:=Jh (And.intro (HGC.out.1.ext hxt HGC.out.2 hob) HGC.out.2)
      have c0:=OB.cell HGC.out.1.1 (j:=0) rfl
      have c1:=OB.cell HGC.out.1.1 (j:=1) rfl
      have c2:=OB.cell HGC.out.1.1 (j:=2) rfl
      have c3:=OB.cell HGC.out.1.1 (j:=3) rfl
      have c4:=OB.cell HGC.out.1.1 (j:=4) rfl
      have c5:=OB.cell HGC.out.1.1 (j:=5) rfl
      have c6:=OB.cell HGC.out.1.1 (j:=6) rfl
      have c7:=OB.cell HGC.out.1.1 (j:=7) rfl
      have c8:=OB.cell HGC.out.1.1 (j:=8) rfl
      have c9:=OB.cell HGC.out.1.1 (j:=9) rfl
      have c10:=OB.cell HGC.out.1.1 (j:=10) rfl
      have c11:=OB.cell HGC.out.1.1 (j:=11) rfl
      have c12:=OB.cell HGC.out.1.1 (j:=12) rfl
      have c18:=OB.cell HGC.out.1.1 (j:=18) rfl
      have c19:=OB.cell HGC.out.1.1 (j:=19) rfl
      clear hob hxt HGC
      go_upto_region 37 with (refine Z2 (T:=68) rfl rfl rfl rfl hst ?_)
      clear c0 c1 c2 c3 c4 c5 c6 c7 c8 c9 c10 c11 c12 c18 c19 hst
      have HV:Hid (o.right=false):=Jh (by rw[HR0.out,Bool.false_and])
      go_wp2_with fail
      go_ret
      exact ⟨by rw[HV.out];rfl,HGX.out.1.2.2⟩
     | true =>
      go_upto_region 29 with fail
      obtain ⟨W9,hst,hob,hxt⟩:=OB.store HGC.out.1.2.1 (T:=68) XO.size (off:=0) (v:=.agg (o.keepS).cells.toArray) (vs:=(o.keepS).cells) rfl rfl (OpD.one _) (by omega) (o.keepS) rfl
      have HGX:=Jh (And.intro (HGC.out.1.ext hxt HGC.out.2 hob) HGC.out.2)
      have c0:=OB.cell HGC.out.1.1 (j:=0) rfl
      have c1:=OB.cell HGC.out.1.1 (j:=1) rfl
      have c2:=OB.cell HGC.out.1.1 (j:=2) rfl
      have c3:=OB.cell HGC.out.1.1 (j:=3) rfl
      have c4:=OB.cell HGC.out.1.1 (j:=4) rfl
      have c5:=OB.cell HGC.out.1.1 (j:=5) rfl
      have c6:=OB.cell HGC.out.1.1 (j:=6) rfl
      have c7:=OB.cell HGC.out.1.1 (j:=7) rfl
      have c8:=OB.cell HGC.out.1.1 (j:=8) rfl
      have c9:=OB.cell HGC.out.1.1 (j:=9) rfl
      have c10:=OB.cell HGC.out.1.1 (j:=10) rfl
      have c11:=OB.cell HGC.out.1.1 (j:=11) rfl
      have c12:=OB.cell HGC.out.1.1 (j:=12) rfl
      have c18:=OB.cell HGC.out.1.1 (j:=18) rfl
      have c19:=OB.cell HGC.out.1.1 (j:=19) rfl
      clear hob hxt HGC
      go_upto_region 37 with (refine Z2 (T:=68) rfl rfl rfl rfl hst ?_)
      clear c0 c1 c2 c3 c4 c5 c6 c7 c8 c9 c10 c11 c12 c18 c19 hst
      obtain ⟨eb,heb⟩:∃ eb,eb=decide (o.keepS=o):=⟨_,rfl⟩
      have HV:Hid (o.right=eb):=Jh (by rw[HR0.out,Bool.true_and,heb])
      have lx:=OB.whole HGX.out.1.2.1
      have lo:=OB.whole HGX.out.1.1
      have heq:=fun W=>Xr (o.keepS) o W
      unfold OpD.val at heq
      rw[←heb] at heq
      clear heb
      go_wp2_with (first|((with_reducible_and_instances refine Z9 (o:=⟨some 247,_,_,_,_,_⟩) (v:=.agg (o.keepS).cells.toArray) ?_ ?_ ?_);rfl;exact Z8 rfl rfl lx)|((with_reducible_and_instances refine Z9 (o:=⟨some 248,_,_,_,_,_⟩) (v:=.agg (o).cells.toArray) ?_ ?_ ?_);rfl;exact Z8 rfl rfl lo))
      go_ret
      exact ⟨by rw[HV.out];rfl,HGX.out.1.2.2⟩
   by_cases hk5:o.kind=5
   ·go_upto_region 31 with fail
    have HK:=Lib.hid hk5
    clear hk5 c10
    have c20:=OB.cell HG6.out.1.1 (j:=20) rfl
    have c21:=OB.cell HG6.out.1.1 (j:=21) rfl
    have lo:=OB.whole HG6.out.1.1
    go_wp2_with ((with_reducible_and_instances refine Z9 (o:=⟨some 201,_,_,_,_,_⟩) (v:=.agg (o).cells.toArray) ?_ ?_ ?_);rfl;exact Z8 rfl rfl lo)
    clear c20 c21 lo
    refine (Ww o o.fr false _).mono ?_
    rintro e w13 ⟨rfl,bb⟩
    have HG13:=Jh (And.intro (HG6.out.1.below bb) HG6.out.2)
    clear bb HG6
    generalize hfv:(false && decide (o.fr=⟨0,0⟩) || o.may o.fr)=fv
    have HFV:=Lib.hid hfv
    clear hfv
    have c23:=OB.cell HG13.out.1.1 (j:=23) rfl
    have c24:=OB.cell HG13.out.1.1 (j:=24) rfl
    have lo:=OB.whole HG13.out.1.1
    go_wp2_with ((with_reducible_and_instances refine Z9 (o:=⟨some 206,_,_,_,_,_⟩) (v:=.agg (o).cells.toArray) ?_ ?_ ?_);rfl;exact Z8 rfl rfl lo)
    clear c23 c24 lo
    refine (Ww o o.tr false _).mono ?_
    rintro e w14 ⟨rfl,bb⟩
    have HG14:=Jh (And.intro (HG13.out.1.below bb) HG13.out.2)
    clear bb HG13
    generalize htv:(false && decide (o.tr=⟨0,0⟩) || o.may o.tr)=tv
    have HTV:=Lib.hid htv
    clear htv
    have c18:=OB.cell HG14.out.1.1 (j:=18) rfl
    go_wp2_with fail
    clear c18
    refine (Z2a o.name HFIT.out.2.1 _).mono ?_
    rintro e w' ⟨rfl,rfl⟩
    generalize hnv:YG o.name=nv
    have HNV:=Lib.hid hnv
    clear hnv
    have c19:=OB.cell HG14.out.1.1 (j:=19) rfl
    go_wp2_with fail
    clear c19
    refine (Z0f o.value HFIT.out.2.2 _).mono ?_
    rintro e w' ⟨rfl,rfl⟩
    generalize hvv:YB o.value=vv
    have HVV:=Lib.hid hvv
    clear hvv
    go_upto_region 35 with fail
    go_cut [3] from 217 to 229 (fun bv wx=>∃ bb:Bool,bv=.bool bb∧Hid ((bk && o.okK)=bb∧RG w B2 o o wx∧w.heap.size<B2))
    case first =>
     cases bk with
     | false =>
      have HOK:Hid ((false && o.okK)=false):=Jh (by rfl)
      go_wp2_with fail
      go_meet
      case rel=>exact ⟨false,by first|rfl|(simp;omega),Lib.hid ⟨HOK.out,HG14.out.1,HG14.out.2⟩⟩
     | true =>
      cases fv with
      | false =>
       have HOK:Hid ((true && o.okK)=false):=Jh (by have h1:=HFV.out;have h2:=HTV.out;have h3:=HNV.out;have h4:=HVV.out;unfold OpD.okK;simp only[Bool.false_and,Bool.false_or] at h1 h2;rw[h1,h2,h3,h4];rfl)
       go_wp2_with fail
       go_meet
       case rel=>exact ⟨false,by first|rfl|(simp;omega),Lib.hid ⟨HOK.out,HG14.out.1,HG14.out.2⟩⟩
      | true =>
       cases tv with
       | false =>
        have HOK:Hid ((true && o.okK)=false):=Jh (by have h1:=HFV.out;have h2:=HTV.out;have h3:=HNV.out;have h4:=HVV.out;unfold OpD.okK;simp only[Bool.false_and,Bool.false_or] at h1 h2;rw[h1,h2,h3,h4];rfl)
        go_wp2_with fail
        go_meet
        case rel=>exact ⟨false,by first|rfl|(simp;omega),Lib.hid ⟨HOK.out,HG14.out.1,HG14.out.2⟩⟩
       | true =>
        cases nv with
        | false =>
         have HOK:Hid ((true && o.okK)=false):=Jh (by have h1:=HFV.out;have h2:=HTV.out;have h3:=HNV.out;have h4:=HVV.out;unfold OpD.okK;simp only[Bool.false_and,Bool.false_or] at h1 h2;rw[h1,h2,h3,h4];rfl)
         go_wp2_with fail
         go_meet
         case rel=>exact ⟨false,by first|rfl|(simp;omega),Lib.hid ⟨HOK.out,HG14.out.1,HG14.out.2⟩⟩
        | true =>
         cases vv with
         | false =>
          have HOK:Hid ((true && o.okK)=false):=Jh (by have h1:=HFV.out;have h2:=HTV.out;have h3:=HNV.out;have h4:=HVV.out;unfold OpD.okK;simp only[Bool.false_and,Bool.false_or] at h1 h2;rw[h1,h2,h3,h4];rfl)
          go_wp2_with fail
          go_meet
          case rel=>exact ⟨false,by first|rfl|(simp;omega),Lib.hid ⟨HOK.out,HG14.out.1,HG14.out.2⟩⟩
         | true =>
          have HOK:Hid ((true && o.okK)=true):=Jh (by have h1:=HFV.out;have h2:=HTV.out;have h3:=HNV.out;have h4:=HVV.out;unfold OpD.okK;simp only[Bool.false_and,Bool.false_or] at h1 h2;rw[h1,h2,h3,h4];rfl)
          go_wp2_with fail
          go_meet
          case rel=>exact ⟨true,by first|rfl|(simp;omega),Lib.hid ⟨HOK.out,HG14.out.1,HG14.out.2⟩⟩
    case rest =>
     clear HG14
     obtain ⟨bb,rfl,HC⟩:=hcut
     have HGC:=Jh (And.intro HC.out.2.1 HC.out.2.2)
     have HR0:Hid (o.right=(bb && decide (o.keepK=o))):=Jh (by rw[VJ,HBK.out,UG HK.out,←Bool.and_assoc,HC.out.1])
     clear HC HBK HK
     cases bb with
     | false =>
      go_upto_region 36 with fail
      obtain ⟨W9,hst,hob,hxt⟩:=OB.store HGC.out.1.2.1 (T:=68) XO.size (off:=0) (v:=.agg (o.keepK).cells.toArray) (vs:=(o.keepK).cells) rfl rfl (OpD.one _) (by omega) (o.keepK) rfl
      have HGX:=Jh (And.intro (HGC.out.1.ext hxt HGC.out.2 hob) HGC.out.2)
      have c0:=OB.cell HGC.out.1.1 (j:=0) rfl
      have c1:=OB.cell HGC.out.1.1 (j:=1) rfl
      have c2:=OB.cell HGC.out.1.1 (j:=2) rfl
      have c3:=OB.cell HGC.out.1.1 (j:=3) rfl
      have c4:=OB.cell HGC.out.1.1 (j:=4) rfl
      have c5:=OB.cell HGC.out.1.1 (j:=5) rfl
      have c6:=OB.cell HGC.out.1.1 (j:=6) rfl
      have c7:=OB.cell HGC.out.1.1 (j:=7) rfl
      have c8:=OB.cell HGC.out.1.1 (j:=8) rfl
      have c9:=OB.cell HGC.out.1.1 (j:=9) rfl
      have c10:=OB.cell HGC.out.1.1 (j:=10) rfl
      have c18:=OB.cell HGC.out.1.1 (j:=18) rfl
      have c19:=OB.cell HGC.out.1.1 (j:=19) rfl
      have c20:=OB.cell HGC.out.1.1 (j:=20) rfl
      have c21:=OB.cell HGC.out.1.1 (j:=21) rfl
      have c22:=OB.cell HGC.out.1.1 (j:=22) rfl
      have c23:=OB.cell HGC.out.1.1 (j:=23) rfl
      have c24:=OB.cell HGC.out.1.1 (j:=24) rfl
      have c25:=OB.cell HGC.out.1.1 (j:=25) rfl
      clear hob hxt HGC
      go_upto_region 37 with (refine Z2 (T:=68) rfl rfl rfl rfl hst ?_)
      clear c0 c1 c2 c3 c4 c5 c6 c7 c8 c9 c10 c18 c19 c20 c21 c22 c23 c24 c25 hst
      have HV:Hid (o.right=false):=Jh (by rw[HR0.out,Bool.false_and])
      go_wp2_with fail
      go_ret
      exact ⟨by rw[HV.out];rfl,HGX.out.1.2.2⟩
     | true =>
      go_upto_region 36 with fail
      obtain ⟨W9,hst,hob,hxt⟩:=OB.store HGC.out.1.2.1 (T:=68) XO.size (off:=0) (v:=.agg (o.keepK).cells.toArray) (vs:=(o.keepK).cells) rfl rfl (OpD.one _) (by omega) (o.keepK) rfl
      have HGX:=Jh (And.intro (HGC.out.1.ext hxt HGC.out.2 hob) HGC.out.2)
      have c0:=OB.cell HGC.out.1.1 (j:=0) rfl
      have c1:=OB.cell HGC.out.1.1 (j:=1) rfl
      have c2:=OB.cell HGC.out.1.1 (j:=2) rfl
      have c3:=OB.cell HGC.out.1.1 (j:=3) rfl
      have c4:=OB.cell HGC.out.1.1 (j:=4) rfl
      have c5:=OB.cell HGC.out.1.1 (j:=5) rfl
      have c6:=OB.cell HGC.out.1.1 (j:=6) rfl
      have c7:=OB.cell HGC.out.1.1 (j:=7) rfl
      have c8:=OB.cell HGC.out.1.1 (j:=8) rfl
      have c9:=OB.cell HGC.out.1.1 (j:=9) rfl
      have c10:=OB.cell HGC.out.1.1 (j:=10) rfl
      have c18:=OB.cell HGC.out.1.1 (j:=18) rfl
      have c19:=OB.cell HGC.out.1.1 (j:=19) rfl
      have c20:=OB.cell HGC.out.1.1 (j:=20) rfl
      have c21:=OB.cell HGC.out.1.1 (j:=21) rfl
      have c22:=OB.cell HGC.out.1.1 (j:=22) rfl
      have c23:=OB.cell HGC.out.1.1 (j:=23) rfl
      have c24:=OB.cell HGC.out.1.1 (j:=24) rfl
      have c25:=OB.cell HGC.out.1.1 (j:=25) rfl
      clear hob hxt HGC
      go_upto_region 37 with (refine Z2 (T:=68) rfl rfl rfl rfl hst ?_)
      clear c0 c1 c2 c3 c4 c5 c6 c7 c8 c9 c10 c18 c19 c20 c21 c22 c23 c24 c25 hst
      obtain ⟨eb,heb⟩:∃ eb,eb=decide (o.keepK=o):=⟨_,rfl⟩
      have HV:Hid (o.right=eb):=Jh (by rw[HR0.out,Bool.true_and,heb])
      have lx:=OB.whole HGX.out.1.2.1
      have lo:=OB.whole HGX.out.1.1
      have heq:=fun W=>Xr (o.keepK) o W
      unfold OpD.val at heq
      rw[←heb] at heq
      clear heb
      go_wp2_with (first|((with_reducible_and_instances refine Z9 (o:=⟨some 247,_,_,_,_,_⟩) (v:=.agg (o.keepK).cells.toArray) ?_ ?_ ?_);rfl;exact Z8 rfl rfl lx)|((with_reducible_and_instances refine Z9 (o:=⟨some 248,_,_,_,_,_⟩) (v:=.agg (o).cells.toArray) ?_ ?_ ?_);rfl;exact Z8 rfl rfl lo))
      go_ret
      exact ⟨by rw[HV.out];rfl,HGX.out.1.2.2⟩
   have HV:Hid (o.right=false):=Jh (by rw[VJ,Z4r hk1 hk2 hk3 hk4 hk5,Bool.and_false])
   go_wp2_with fail
   go_ret
   exact ⟨by rw[HV.out];rfl,HG6.out.1.2.2⟩
end Go.Proofs.YtgmdimbiipemhaaGreatDoor
