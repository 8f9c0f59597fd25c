/- OplogAnew, part 9 of what the proof leans on (made short by a program). -/
import Derived.Test.YtgmdimbiipemhaaGreatDoorAnZ8
set_option linter.unusedSimpArgs false
set_option linter.unusedVariables false
set_option linter.unusedSectionVars false
set_option maxRecDepth 20000
set_option maxHeartbeats 30000000
namespace Go.Proofs.YtgmdimbiipemhaaGreatDoor
open Go.RowKit Go.Deep
theorem Zf {fn:Func} {t u v x:Tmp} (h:fn.results=#[.tmp t,.tmp u,.tmp v,.tmp x]) (tmps:Array Value) (P:Program) (w:World) :
  (results fn tmps).run P w=.ok (.tuple #[tmps.getD t undef,tmps.getD u undef,tmps.getD v undef,tmps.getD x undef]) w:=by
 simp[results,h]
theorem XH {base g cap:Nat} {W:World} {l xs:List UInt8} {vx:Value} (ho:Own u8c 1 5 base W (.slice (some ⟨g,0,none⟩) l.length cap) l) (hx:Z0 u8c 1 W vx xs) (hl:xs.length≤l.length) :
  ∃ W',(Builtin.copy_ #[22,22] 3 #[.slice (some ⟨g,0,none⟩) l.length cap,vx]).run Tryz.prog W=.ok (.int .i64 (xs.length:Int)) W'∧Own u8c 1 5 base W' (.slice (some ⟨g,0,none⟩) l.length cap) (xs++l.drop xs.length)∧Ext (·=g) W W':=by
 obtain ⟨a,c,rfl,h1,h2,h3⟩:=hx
 by_cases hne:xs=[]
 ·subst hne
  refine ⟨W,run_copy_none W _ _ _ _ _ _ _ _ _ _ Tryz.underlying22 Zi (by simp),ho,Ext.refl _ _⟩
 ·obtain ⟨b,off,rfl,h4⟩:=h3 hne
  obtain ⟨cur,hcur⟩:=ho.tag (b:=g) rfl
  have hxl:(xs.flatMap u8c).length=xs.length:=by rw[Zx Z7,Nat.mul_one]
  have hcs:l.length≤cur.size:=by
   obtain ⟨_,h3⟩:=ho
   rcases h3 with ⟨e,_⟩|⟨g',cap',cur',e,hb,hg',hn,hm,hs,ht⟩
   ·cases e
   ·cases e
    rw[hcur] at hg'
    cases hg'
    omega
  have hcp:=run_copy_row (P:=Tryz.prog) W 22 22 3 5 g 0 l.length cap ⟨b,off,none⟩ xs.length c cur 5 (xs.flatMap u8c) Tryz.underlying22 Zi hcur (by rw[hxl];exact (Nat.min_eq_left hl).symm)
   (fun j v hj=>by
    have hjl:=(List.getElem?_eq_some_iff.1 hj).1
    rw[hxl] at hjl
    obtain ⟨x,hx⟩:∃ x,xs[j]?=some x:=⟨_,List.getElem?_eq_getElem hjl⟩
    have h5:=getElem?_flatMap_k Z7 xs j x hx 0 _ rfl
    rw[Nat.mul_one,Nat.add_zero,hj] at h5
    cases h5
    have h6:=h4 j x hx 0 _ rfl
    rw[Nat.mul_one,Nat.add_zero] at h6
    rw[WU]
    exact h6) (by rw[hxl];omega) (fun v hv=>by obtain ⟨x,_,hx⟩:=List.mem_flatMap.1 hv;exact Wt x v hx)
  rw[hxl] at hcp
  refine ⟨_,hcp,?_,Q9 _ _ _⟩
  have h5:=ho.splice (xs:=xs) Z7 hcur 0 (by omega)
  rw[List.take_zero,List.nil_append,Nat.zero_add] at h5
  rw[Nat.zero_add]
  exact h5
theorem Y4 (c:Int) (w:World):Calls Tryz.prog 162 #[.int .i64 c] w fun e w'=>e=.returned (.tuple #[.int .u8 0,.slice none 0 0,.int .i64 0,.int .i64 c])∧w=w':=by
 go_enter Tryz.func162,Tryz.ntmps162
 go_wp2
 refine bodyPost_ret (Zf rfl _ _ _) rfl ?_
 exact ⟨rfl,rfl⟩
def Ul (w:World) (b:List UInt8) (e:Ending) (w':World):Prop :=
 (∃ k body v,Yp b=some (k,body)∧e=.returned (.tuple #[.int .u8 (k.toNat:Int),v,.int .i64 ((11+body.length:Nat):Int),.int .i64 0])∧Own u8c 1 5 w.heap.size w' v body∧Below w.heap.size w w') ∨
 (Yp b=none∧(∃ c:Int,c≠0∧e=.returned (.tuple #[.int .u8 0,.slice none 0 0,.int .i64 0,.int .i64 c]))∧Below w.heap.size w w')
theorem TO (m0 m1 k a0 a1 a2 a3 s0 s1 s2 s3:UInt8) (r:List UInt8) (n:Nat):(m0 :: m1 :: k :: a0 :: a1 :: a2 :: a3 :: s0 :: s1 :: s2 :: s3 :: r).take (11+n)=m0 :: m1 :: k :: a0 :: a1 :: a2 :: a3 :: s0 :: s1 :: s2 :: s3 :: r.take n:=by
 rw[Nat.add_comm]
 simp
theorem Z0g {b:List UInt8} (h:Yp b≠none):b.take 2=[83,84]:=by
 by_cases hl:11≤b.length
 ·obtain ⟨m0,m1,k,a0,a1,a2,a3,s0,s1,s2,s3,r,rfl⟩:=ST hl
  rw[U5] at h
  split at h
  ·rename_i hc
   obtain ⟨rfl,rfl,_⟩:=hc
   rfl
  ·exact absurd rfl h
 ·exact absurd (Xs (by omega)) h
theorem Z7x {b l4:List UInt8} (h7:7≤b.length) (hl:(b.take 7).drop 3++(List.replicate 4 (0:UInt8)).drop ((b.take 7).drop 3).length=l4):l4=(b.take 7).drop 3:=by
 have e:((b.take 7).drop 3).length=4:=by simp only[List.length_drop,List.length_take];omega
 rw[←hl,e]
 simp
theorem Z1x {b:List UInt8} (h7:7≤b.length) {N:Nat} (hN:YF ((b.take 7).drop 3) 4=N) (h:65536<N∨b.length<11+N):Yp b=none:=by
 by_cases hl:11≤b.length
 ·obtain ⟨m0,m1,k,a0,a1,a2,a3,s0,s1,s2,s3,r,rfl⟩:=ST hl
  have e:((m0 :: m1 :: k :: a0 :: a1 :: a2 :: a3 :: s0 :: s1 :: s2 :: s3 :: r).take 7).drop 3=[a0,a1,a2,a3]:=rfl
  rw[e,SD] at hN
  simp only[List.length_cons] at h
  exact Z1n (fun hc=>by rw[hN] at hc;omega)
 ·exact Xs (by omega)
theorem Z5z {b:List UInt8} (h11:11≤b.length) {N:Nat} (hN:YF ((b.take 7).drop 3) 4=N) (hb:N≤65536) (hl:11+N≤b.length) (hm:b.take 2=[83,84]) :
  (YF ((b.take (11+N)).drop 7) 4=Wf (((b.take (11+N)).take 7).drop 2++(b.take (11+N)).drop 11)→∃ k,b[2]?=some k∧Yp b=some (k,(b.take (11+N)).drop 11)) ∧
  (¬ YF ((b.take (11+N)).drop 7) 4=Wf (((b.take (11+N)).take 7).drop 2++(b.take (11+N)).drop 11)→Yp b=none):=by
 obtain ⟨m0,m1,k,a0,a1,a2,a3,s0,s1,s2,s3,r,rfl⟩:=ST h11
 have e:((m0 :: m1 :: k :: a0 :: a1 :: a2 :: a3 :: s0 :: s1 :: s2 :: s3 :: r).take 7).drop 3=[a0,a1,a2,a3]:=rfl
 rw[e,SD] at hN
 have em:(m0 :: m1 :: k :: a0 :: a1 :: a2 :: a3 :: s0 :: s1 :: s2 :: s3 :: r).take 2=[m0,m1]:=rfl
 rw[em] at hm
 simp only[List.cons.injEq,and_true] at hm
 obtain ⟨rfl,rfl⟩:=hm
 simp only[List.length_cons] at hl
 rw[TO]
 obtain ⟨d,hd⟩:=Je (r.take N)
 rw[hd]
 have e7:(83 :: 84 :: k :: a0 :: a1 :: a2 :: a3 :: s0 :: s1 :: s2 :: s3 :: d).drop 7=s0 :: s1 :: s2 :: s3 :: d:=rfl
 have e2:((83 :: 84 :: k :: a0 :: a1 :: a2 :: a3 :: s0 :: s1 :: s2 :: s3 :: d).take 7).drop 2=[k,a0,a1,a2,a3]:=rfl
 have e11:(83 :: 84 :: k :: a0 :: a1 :: a2 :: a3 :: s0 :: s1 :: s2 :: s3 :: d).drop 11=d:=rfl
 rw[e7,e2,e11,SD]
 constructor
 ·intro h
  refine ⟨k,rfl,?_⟩
  rw[U5,hN,hd]
  exact if_pos ⟨rfl,rfl,hb,by omega,h⟩
 ·intro h
  refine Z1n (fun hc=>?_)
  rw[hN,hd] at hc
  exact h hc.2.2.2.2
theorem X8:(∀ W,(Instr.slice 9 (.string ⟨#[83,84]⟩) none (some (.int .i64 0)) none).run Tryz.prog W=.ok (.string ⟨([]:List UInt8).toArray⟩) W)∧(∀ W,(Instr.slice 9 (.string ⟨#[83,84]⟩) none (some (.int .i64 1)) none).run Tryz.prog W=.ok (.string ⟨([83]:List UInt8).toArray⟩) W)∧(∀ W,(Instr.slice 9 (.string ⟨#[83,84]⟩) none (some (.int .i64 2)) none).run Tryz.prog W=.ok (.string ⟨([83,84]:List UInt8).toArray⟩) W) :=
 ⟨fun W=>by kernel_rfl,fun W=>by kernel_rfl,fun W=>by kernel_rfl⟩
theorem Z6h (v:Value) (b:List UInt8) (w:World) (h:Z0 u8c 1 w v b):Calls Tryz.prog 111 #[v] w fun e w'=>Ul w b e w':=by
 obtain ⟨a,cap,rfl,hcap,hmax,-⟩:=id h
 unfold maxLen at hmax
 obtain ⟨n,hn⟩:=Je (b.length)
 rw[hn] at h hcap ⊢
 have HH:=Lib.hid h
 clear h
 by_cases hp2:2≤n
 ·by_cases hmk2:b.take 2=[83,84]
  ·have HEQ:Hid ((⟨(b.take 2).toArray⟩:ByteArray)=⟨([83,84]:List UInt8).toArray⟩):=Jh (by rw[hmk2])
   have hmk3:=hmk2
   clear hmk2
   by_cases hbg:7<n
   rotate_left
   ·have h27:n=2∨n=3∨n=4∨n=5∨n=6∨n=7:=by omega
    have HNO:=Jh (Xs (b:=b) (by omega))
    rcases h27 with rfl|rfl|rfl|rfl|rfl|rfl
    ·skip
     clear hmk3
     obtain ⟨a3,hs3,hS3⟩:=Yt (P:=Tryz.prog) (ea:=u8c) Tryz.underlying22 Zi a 2 cap 2 hcap (by omega)
     have hr3:∀ W,(Instr.slice 22 (.slice a 2 cap) none (some (.int .i64 2)) none).run Tryz.prog W=.ok (.slice a3 2 cap) W:=hs3
     have hm3:=X8.2.2
     have hq3:=hS3 w b hn HH.out
     clear hs3 hS3
     have hmin2:min (2:Int) 2=2:=by omega
     have hmin3:min (2:Int) 3=2:=by omega
     have hmin7:min (2:Int) 7=2:=by omega
     go_enter Tryz.func111,Tryz.ntmps111
     go_upto_region 3 with fail
     refine Z6 (fun W:World=>Z0 u8c 1 W (.slice a3 2 cap) (b.take 2)) (fun _=>false) (by kernel_rfl) ?_
     have hS0:(fun W:World=>Z0 u8c 1 W (.slice a3 2 cap) (b.take 2)) w.drew:=hq3.below (Below.refl _ _).drew
     have HW:Hid (Z0 u8c 1 w.drew (.slice a 2 cap) b∧Below w.heap.size w w.drew):=Lib.hid ⟨HH.out.below (Below.refl _ _).drew,(Below.refl _ _).drew⟩
     clear hq3
     have hsz:w.drew.heap.size=w.heap.size:=rfl
     generalize w.drew=W1 at hS0 HW hsz ⊢
     have HSZ:=Lib.hid hsz
     clear hsz
     refine J0 0 14 _ hS0 ?_
     try simp only[Ja]
     refine J0 1 15 _ hS0 ?_
     try simp only[Ja]
     refine J0 2 16 (.slice a3 2 cap) hS0 ?_
     try simp only[Ja]
     refine JR 3 17 (.string ⟨(b.take 2).toArray⟩) rfl rfl hS0 (fun W hW=>by have q3:=Zs hW;go_simp;try rfl) ?_
     try simp only[Ja]
     refine J0 4 18 _ hS0 ?_
     try simp only[Ja]
     refine J0 5 19 (.string ⟨([83,84]:List UInt8).toArray⟩) hS0 ?_
     try simp only[Ja]
     refine JR 6 20 (.bool false) rfl rfl hS0 (fun W hW=>by have q4:=HEQ.out;go_simp;try rfl) ?_
     try simp only[Ja]
     refine Z3 (by kernel_rfl) ?_ _
     clear hS0 hr3 hm3
     obtain ⟨i0,hi,hy0,hy1,hy2⟩:=info_parts YO
     have hmk:(Instr.makeSlice 22 (.int .i64 4) (.int .i64 4)).run Tryz.prog W1=.ok (.slice (some ⟨W1.heap.size,0,none⟩) 4 4) (W1.alloc (.cells (madeCells (Value.int .u8 0).cells (4*1)) 5)):=by
      have h:=run_make (P:=Tryz.prog) W1 22 5 i0 _ Tryz.underlying22 hi hy0 .i64 .i64 4 4 (by omega) (by omega) (by rw[hy2];omega) (by omega)
      rw[hy1] at h
      exact h
     clear hi hy0 hy1 hy2
     have b2:Below W1.heap.size W1 (W1.alloc (.cells (madeCells (Value.int .u8 0).cells (4*1)) 5)):=(Below.refl _ _).alloc (Nat.le_refl _) _
     have ho2:=Wd (base:=W1.heap.size) (n:=4) (cap:=4) (W:=W1) (Nat.le_refl _) (by omega) (by omega)
     obtain ⟨w2,hw2⟩:=Je (W1.alloc (.cells (madeCells (Value.int .u8 0).cells (4*1)) 5))
     rw[hw2] at hmk b2 ho2
     clear hw2
     obtain ⟨a6,c6,hs6,hS6⟩:=YV (P:=Tryz.prog) (ea:=u8c) Tryz.underlying22 Zi a 2 cap 2 2 hcap (by omega) (by omega)
     have hr6:∀ W,(Instr.slice 22 (.slice a 2 cap) (some (.int .i64 2)) (some (.int .i64 2)) none).run Tryz.prog W=.ok (.slice a6 0 c6) W:=hs6
     have hq6:Z0 u8c 1 w2 (.slice a6 0 c6) ((b.take 2).drop 2):=hS6 w2 b hn (HW.out.1.below b2)
     obtain ⟨w3,hcp,ho3,x3⟩:=XH (l:=List.replicate 4 (0:UInt8)) ho2 hq6 (by simp <;> omega)
     have b3:Below W1.heap.size W1 w3:=Ext.new b2 x3 (fun i hi _ e=>by omega) b2.size
     rw[show (List.replicate 4 (0:UInt8)).length=4 from rfl] at hcp ho3
     clear hs6 hS6 hq6 ho2 x3 b2
     obtain ⟨l4,hl4⟩:=Je ((b.take 2).drop 2++(List.replicate 4 (0:UInt8)).drop ((b.take 2).drop 2).length)
     obtain ⟨xl,hxl⟩:=Je (((b.take 2).drop 2).length)
     rw[hl4] at ho3
     have hl44:l4.length=4:=by rw[←hl4];simp only[List.length_append,List.length_drop,List.length_take,List.length_replicate];omega
     rw[hxl] at hcp
     have hg4:=ho3.slice Z7
     have HB:Hid (Below w.heap.size w w3∧Z0 u8c 1 w3 (.slice a 2 cap) b):=Lib.hid ⟨HW.out.2.trans (b3.mono (by rw[HSZ.out];exact Nat.le_refl _)),HW.out.1.below b3⟩
     have H4:=Jh (And.intro hg4 (And.intro hl44 hl4))
     clear hxl hl4 hl44 hg4 ho3 b3
     go_wp2_with (with_reducible refine Lib.wpList_copy_run _ rfl _ _ _ _ rfl _ _ rfl rfl hcp ?_)
     clear hcp hmk hr6
     refine (XZ _ l4 _ H4.out.1 (by rw[H4.out.2.1];omega)).mono ?_
     rintro e w4 ⟨rfl,rfl⟩
     obtain ⟨N,hN⟩:=Je (YF l4 4)
     have hNlt:N<4294967296:=by rw[←hN];exact XD l4 4
     rw[hN]
     have HNN:=Lib.hid hN
     clear hN
     by_cases hbig:65536<N
     ·have hb1:(65536:Int)<(N:Int):=by omega
      go_wp2_with (go_at_call 162;refine (Y4 _ _).mono ?_;rintro e w9 ⟨rfl,rfl⟩)
      (try simp only[Exit.inBlock,Exit.then])
      refine bodyPost_ret (Zf rfl _ _ _) rfl ?_
      exact .inr ⟨HNO.out,⟨_,by decide,rfl⟩,(by first|exact HB.out.1|exact HB.out)⟩
     ·have hb1:¬ (65536:Int)<(N:Int):=by omega
      go_wp2_with (go_at_call 162;refine (Y4 _ _).mono ?_;rintro e w9 ⟨rfl,rfl⟩)
      (try simp only[Exit.inBlock,Exit.then])
      refine bodyPost_ret (Zf rfl _ _ _) rfl ?_
      exact .inr ⟨HNO.out,⟨_,by decide,rfl⟩,(by first|exact HB.out.1|exact HB.out)⟩
    ·skip
     clear hmk3
     obtain ⟨a3,hs3,hS3⟩:=Yt (P:=Tryz.prog) (ea:=u8c) Tryz.underlying22 Zi a 3 cap 2 hcap (by omega)
     have hr3:∀ W,(Instr.slice 22 (.slice a 3 cap) none (some (.int .i64 2)) none).run Tryz.prog W=.ok (.slice a3 2 cap) W:=hs3
     have hm3:=X8.2.2
     have hq3:=hS3 w b hn HH.out
     clear hs3 hS3
     have hmin2:min (3:Int) 2=2:=by omega
     have hmin3:min (3:Int) 3=3:=by omega
     have hmin7:min (3:Int) 7=3:=by omega
     go_enter Tryz.func111,Tryz.ntmps111
     go_upto_region 3 with fail
     refine Z6 (fun W:World=>Z0 u8c 1 W (.slice a3 2 cap) (b.take 2)) (fun _=>false) (by kernel_rfl) ?_
     have hS0:(fun W:World=>Z0 u8c 1 W (.slice a3 2 cap) (b.take 2)) w.drew:=hq3.below (Below.refl _ _).drew
     have HW:Hid (Z0 u8c 1 w.drew (.slice a 3 cap) b∧Below w.heap.size w w.drew):=Lib.hid ⟨HH.out.below (Below.refl _ _).drew,(Below.refl _ _).drew⟩
     clear hq3
     have hsz:w.drew.heap.size=w.heap.size:=rfl
     generalize w.drew=W1 at hS0 HW hsz ⊢
     have HSZ:=Lib.hid hsz
     clear hsz
     refine J0 0 14 _ hS0 ?_
     try simp only[Ja]
     refine J0 1 15 _ hS0 ?_
     try simp only[Ja]
     refine J0 2 16 (.slice a3 2 cap) hS0 ?_
     try simp only[Ja]
     refine JR 3 17 (.string ⟨(b.take 2).toArray⟩) rfl rfl hS0 (fun W hW=>by have q3:=Zs hW;go_simp;try rfl) ?_
     try simp only[Ja]
     refine J0 4 18 _ hS0 ?_
     try simp only[Ja]
     refine J0 5 19 (.string ⟨([83,84]:List UInt8).toArray⟩) hS0 ?_
     try simp only[Ja]
     refine JR 6 20 (.bool false) rfl rfl hS0 (fun W hW=>by have q4:=HEQ.out;go_simp;try rfl) ?_
     try simp only[Ja]
     refine Z3 (by kernel_rfl) ?_ _
     clear hS0 hr3 hm3
     obtain ⟨i0,hi,hy0,hy1,hy2⟩:=info_parts YO
     have hmk:(Instr.makeSlice 22 (.int .i64 4) (.int .i64 4)).run Tryz.prog W1=.ok (.slice (some ⟨W1.heap.size,0,none⟩) 4 4) (W1.alloc (.cells (madeCells (Value.int .u8 0).cells (4*1)) 5)):=by
      have h:=run_make (P:=Tryz.prog) W1 22 5 i0 _ Tryz.underlying22 hi hy0 .i64 .i64 4 4 (by omega) (by omega) (by rw[hy2];omega) (by omega)
      rw[hy1] at h
      exact h
     clear hi hy0 hy1 hy2
     have b2:Below W1.heap.size W1 (W1.alloc (.cells (madeCells (Value.int .u8 0).cells (4*1)) 5)):=(Below.refl _ _).alloc (Nat.le_refl _) _
     have ho2:=Wd (base:=W1.heap.size) (n:=4) (cap:=4) (W:=W1) (Nat.le_refl _) (by omega) (by omega)
     obtain ⟨w2,hw2⟩:=Je (W1.alloc (.cells (madeCells (Value.int .u8 0).cells (4*1)) 5))
     rw[hw2] at hmk b2 ho2
     clear hw2
     obtain ⟨a6,c6,hs6,hS6⟩:=YV (P:=Tryz.prog) (ea:=u8c) Tryz.underlying22 Zi a 3 cap 3 3 hcap (by omega) (by omega)
     have hr6:∀ W,(Instr.slice 22 (.slice a 3 cap) (some (.int .i64 3)) (some (.int .i64 3)) none).run Tryz.prog W=.ok (.slice a6 0 c6) W:=hs6
     have hq6:Z0 u8c 1 w2 (.slice a6 0 c6) ((b.take 3).drop 3):=hS6 w2 b hn (HW.out.1.below b2)
     obtain ⟨w3,hcp,ho3,x3⟩:=XH (l:=List.replicate 4 (0:UInt8)) ho2 hq6 (by simp <;> omega)
     have b3:Below W1.heap.size W1 w3:=Ext.new b2 x3 (fun i hi _ e=>by omega) b2.size
     rw[show (List.replicate 4 (0:UInt8)).length=4 from rfl] at hcp ho3
     clear hs6 hS6 hq6 ho2 x3 b2
     obtain ⟨l4,hl4⟩:=Je ((b.take 3).drop 3++(List.replicate 4 (0:UInt8)).drop ((b.take 3).drop 3).length)
     obtain ⟨xl,hxl⟩:=Je (((b.take 3).drop 3).length)
     rw[hl4] at ho3
     have hl44:l4.length=4:=by rw[←hl4];simp only[List.length_append,List.length_drop,List.length_take,List.length_replicate];omega
     rw[hxl] at hcp
     have hg4:=ho3.slice Z7
     have HB:Hid (Below w.heap.size w w3∧Z0 u8c 1 w3 (.slice a 3 cap) b):=Lib.hid ⟨HW.out.2.trans (b3.mono (by rw[HSZ.out];exact Nat.le_refl _)),HW.out.1.below b3⟩
     have H4:=Jh (And.intro hg4 (And.intro hl44 hl4))
     clear hxl hl4 hl44 hg4 ho3 b3
     go_wp2_with (with_reducible refine Lib.wpList_copy_run _ rfl _ _ _ _ rfl _ _ rfl rfl hcp ?_)
     clear hcp hmk hr6
     refine (XZ _ l4 _ H4.out.1 (by rw[H4.out.2.1];omega)).mono ?_
     rintro e w4 ⟨rfl,rfl⟩
     obtain ⟨N,hN⟩:=Je (YF l4 4)
     have hNlt:N<4294967296:=by rw[←hN];exact XD l4 4
     rw[hN]
     have HNN:=Lib.hid hN
     clear hN
     by_cases hbig:65536<N
     ·have hb1:(65536:Int)<(N:Int):=by omega
      go_wp2_with (go_at_call 162;refine (Y4 _ _).mono ?_;rintro e w9 ⟨rfl,rfl⟩)
      (try simp only[Exit.inBlock,Exit.then])
      refine bodyPost_ret (Zf rfl _ _ _) rfl ?_
      exact .inr ⟨HNO.out,⟨_,by decide,rfl⟩,(by first|exact HB.out.1|exact HB.out)⟩
     ·have hb1:¬ (65536:Int)<(N:Int):=by omega
      go_wp2_with (go_at_call 162;refine (Y4 _ _).mono ?_;rintro e w9 ⟨rfl,rfl⟩)
      (try simp only[Exit.inBlock,Exit.then])
      refine bodyPost_ret (Zf rfl _ _ _) rfl ?_
      exact .inr ⟨HNO.out,⟨_,by decide,rfl⟩,(by first|exact HB.out.1|exact HB.out)⟩
    ·skip
     clear hmk3
     obtain ⟨a3,hs3,hS3⟩:=Yt (P:=Tryz.prog) (ea:=u8c) Tryz.underlying22 Zi a 4 cap 2 hcap (by omega)
     have hr3:∀ W,(Instr.slice 22 (.slice a 4 cap) none (some (.int .i64 2)) none).run Tryz.prog W=.ok (.slice a3 2 cap) W:=hs3
     have hm3:=X8.2.2
     have hq3:=hS3 w b hn HH.out
     clear hs3 hS3
     have hmin2:min (4:Int) 2=2:=by omega
     have hmin3:min (4:Int) 3=3:=by omega
     have hmin7:min (4:Int) 7=4:=by omega
     go_enter Tryz.func111,Tryz.ntmps111
     go_upto_region 3 with fail
     refine Z6 (fun W:World=>Z0 u8c 1 W (.slice a3 2 cap) (b.take 2)) (fun _=>false) (by kernel_rfl) ?_
     have hS0:(fun W:World=>Z0 u8c 1 W (.slice a3 2 cap) (b.take 2)) w.drew:=hq3.below (Below.refl _ _).drew
     have HW:Hid (Z0 u8c 1 w.drew (.slice a 4 cap) b∧Below w.heap.size w w.drew):=Lib.hid ⟨HH.out.below (Below.refl _ _).drew,(Below.refl _ _).drew⟩
     clear hq3
     have hsz:w.drew.heap.size=w.heap.size:=rfl
     generalize w.drew=W1 at hS0 HW hsz ⊢
     have HSZ:=Lib.hid hsz
     clear hsz
     refine J0 0 14 _ hS0 ?_
     try simp only[Ja]
     refine J0 1 15 _ hS0 ?_
     try simp only[Ja]
     refine J0 2 16 (.slice a3 2 cap) hS0 ?_
     try simp only[Ja]
     refine JR 3 17 (.string ⟨(b.take 2).toArray⟩) rfl rfl hS0 (fun W hW=>by have q3:=Zs hW;go_simp;try rfl) ?_
     try simp only[Ja]
     refine J0 4 18 _ hS0 ?_
     try simp only[Ja]
     refine J0 5 19 (.string ⟨([83,84]:List UInt8).toArray⟩) hS0 ?_
     try simp only[Ja]
     refine JR 6 20 (.bool false) rfl rfl hS0 (fun W hW=>by have q4:=HEQ.out;go_simp;try rfl) ?_
     try simp only[Ja]
     refine Z3 (by kernel_rfl) ?_ _
     clear hS0 hr3 hm3
     obtain ⟨i0,hi,hy0,hy1,hy2⟩:=info_parts YO
     have hmk:(Instr.makeSlice 22 (.int .i64 4) (.int .i64 4)).run Tryz.prog W1=.ok (.slice (some ⟨W1.heap.size,0,none⟩) 4 4) (W1.alloc (.cells (madeCells (Value.int .u8 0).cells (4*1)) 5)):=by
      have h:=run_make (P:=Tryz.prog) W1 22 5 i0 _ Tryz.underlying22 hi hy0 .i64 .i64 4 4 (by omega) (by omega) (by rw[hy2];omega) (by omega)
      rw[hy1] at h
      exact h
     clear hi hy0 hy1 hy2
     have b2:Below W1.heap.size W1 (W1.alloc (.cells (madeCells (Value.int .u8 0).cells (4*1)) 5)):=(Below.refl _ _).alloc (Nat.le_refl _) _
     have ho2:=Wd (base:=W1.heap.size) (n:=4) (cap:=4) (W:=W1) (Nat.le_refl _) (by omega) (by omega)
     obtain ⟨w2,hw2⟩:=Je (W1.alloc (.cells (madeCells (Value.int .u8 0).cells (4*1)) 5))
     rw[hw2] at hmk b2 ho2
     clear hw2
     obtain ⟨a6,c6,hs6,hS6⟩:=YV (P:=Tryz.prog) (ea:=u8c) Tryz.underlying22 Zi a 4 cap 3 4 hcap (by omega) (by omega)
     have hr6:∀ W,(Instr.slice 22 (.slice a 4 cap) (some (.int .i64 3)) (some (.int .i64 4)) none).run Tryz.prog W=.ok (.slice a6 1 c6) W:=hs6
     have hq6:Z0 u8c 1 w2 (.slice a6 1 c6) ((b.take 4).drop 3):=hS6 w2 b hn (HW.out.1.below b2)
     obtain ⟨w3,hcp,ho3,x3⟩:=XH (l:=List.replicate 4 (0:UInt8)) ho2 hq6 (by simp <;> omega)
     have b3:Below W1.heap.size W1 w3:=Ext.new b2 x3 (fun i hi _ e=>by omega) b2.size
     rw[show (List.replicate 4 (0:UInt8)).length=4 from rfl] at hcp ho3
     clear hs6 hS6 hq6 ho2 x3 b2
     obtain ⟨l4,hl4⟩:=Je ((b.take 4).drop 3++(List.replicate 4 (0:UInt8)).drop ((b.take 4).drop 3).length)
     obtain ⟨xl,hxl⟩:=Je (((b.take 4).drop 3).length)
     rw[hl4] at ho3
     have hl44:l4.length=4:=by rw[←hl4];simp only[List.length_append,List.length_drop,List.length_take,List.length_replicate];omega
     rw[hxl] at hcp
     have hg4:=ho3.slice Z7
     have HB:Hid (Below w.heap.size w w3∧Z0 u8c 1 w3 (.slice a 4 cap) b):=Lib.hid ⟨HW.out.2.trans (b3.mono (by rw[HSZ.out];exact Nat.le_refl _)),HW.out.1.below b3⟩
     have H4:=Jh (And.intro hg4 (And.intro hl44 hl4))
     clear hxl hl4 hl44 hg4 ho3 b3
     go_wp2_with (with_reducible refine Lib.wpList_copy_run _ rfl _ _ _ _ rfl _ _ rfl rfl hcp ?_)
     clear hcp hmk hr6
     refine (XZ _ l4 _ H4.out.1 (by rw[H4.out.2.1];omega)).mono ?_
     rintro e w4 ⟨rfl,rfl⟩
     obtain ⟨N,hN⟩:=Je (YF l4 4)
     have hNlt:N<4294967296:=by rw[←hN];exact XD l4 4
     rw[hN]
     have HNN:=Lib.hid hN
     clear hN
     by_cases hbig:65536<N
     ·have hb1:(65536:Int)<(N:Int):=by omega
      go_wp2_with (go_at_call 162;refine (Y4 _ _).mono ?_;rintro e w9 ⟨rfl,rfl⟩)
      (try simp only[Exit.inBlock,Exit.then])
      refine bodyPost_ret (Zf rfl _ _ _) rfl ?_
      exact .inr ⟨HNO.out,⟨_,by decide,rfl⟩,(by first|exact HB.out.1|exact HB.out)⟩
     ·have hb1:¬ (65536:Int)<(N:Int):=by omega
      go_wp2_with (go_at_call 162;refine (Y4 _ _).mono ?_;rintro e w9 ⟨rfl,rfl⟩)
      (try simp only[Exit.inBlock,Exit.then])
      refine bodyPost_ret (Zf rfl _ _ _) rfl ?_
      exact .inr ⟨HNO.out,⟨_,by decide,rfl⟩,(by first|exact HB.out.1|exact HB.out)⟩
    ·skip
     clear hmk3
     obtain ⟨a3,hs3,hS3⟩:=Yt (P:=Tryz.prog) (ea:=u8c) Tryz.underlying22 Zi a 5 cap 2 hcap (by omega)
     have hr3:∀ W,(Instr.slice 22 (.slice a 5 cap) none (some (.int .i64 2)) none).run Tryz.prog W=.ok (.slice a3 2 cap) W:=hs3
     have hm3:=X8.2.2
     have hq3:=hS3 w b hn HH.out
     clear hs3 hS3
     have hmin2:min (5:Int) 2=2:=by omega
     have hmin3:min (5:Int) 3=3:=by omega
     have hmin7:min (5:Int) 7=5:=by omega
     go_enter Tryz.func111,Tryz.ntmps111
     go_upto_region 3 with fail
     refine Z6 (fun W:World=>Z0 u8c 1 W (.slice a3 2 cap) (b.take 2)) (fun _=>false) (by kernel_rfl) ?_
     have hS0:(fun W:World=>Z0 u8c 1 W (.slice a3 2 cap) (b.take 2)) w.drew:=hq3.below (Below.refl _ _).drew
     have HW:Hid (Z0 u8c 1 w.drew (.slice a 5 cap) b∧Below w.heap.size w w.drew):=Lib.hid ⟨HH.out.below (Below.refl _ _).drew,(Below.refl _ _).drew⟩
     clear hq3
     have hsz:w.drew.heap.size=w.heap.size:=rfl
     generalize w.drew=W1 at hS0 HW hsz ⊢
     have HSZ:=Lib.hid hsz
     clear hsz
     refine J0 0 14 _ hS0 ?_
     try simp only[Ja]
     refine J0 1 15 _ hS0 ?_
     try simp only[Ja]
     refine J0 2 16 (.slice a3 2 cap) hS0 ?_
     try simp only[Ja]
     refine JR 3 17 (.string ⟨(b.take 2).toArray⟩) rfl rfl hS0 (fun W hW=>by have q3:=Zs hW;go_simp;try rfl) ?_
     try simp only[Ja]
     refine J0 4 18 _ hS0 ?_
     try simp only[Ja]
     refine J0 5 19 (.string ⟨([83,84]:List UInt8).toArray⟩) hS0 ?_
     try simp only[Ja]
     refine JR 6 20 (.bool false) rfl rfl hS0 (fun W hW=>by have q4:=HEQ.out;go_simp;try rfl) ?_
     try simp only[Ja]
     refine Z3 (by kernel_rfl) ?_ _
     clear hS0 hr3 hm3
     obtain ⟨i0,hi,hy0,hy1,hy2⟩:=info_parts YO
     have hmk:(Instr.makeSlice 22 (.int .i64 4) (.int .i64 4)).run Tryz.prog W1=.ok (.slice (some ⟨W1.heap.size,0,none⟩) 4 4) (W1.alloc (.cells (madeCells (Value.int .u8 0).cells (4*1)) 5)):=by
      have h:=run_make (P:=Tryz.prog) W1 22 5 i0 _ Tryz.underlying22 hi hy0 .i64 .i64 4 4 (by omega) (by omega) (by rw[hy2];omega) (by omega)
      rw[hy1] at h
      exact h
     clear hi hy0 hy1 hy2
     have b2:Below W1.heap.size W1 (W1.alloc (.cells (madeCells (Value.int .u8 0).cells (4*1)) 5)):=(Below.refl _ _).alloc (Nat.le_refl _) _
     have ho2:=Wd (base:=W1.heap.size) (n:=4) (cap:=4) (W:=W1) (Nat.le_refl _) (by omega) (by omega)
     obtain ⟨w2,hw2⟩:=Je (W1.alloc (.cells (madeCells (Value.int .u8 0).cells (4*1)) 5))
     rw[hw2] at hmk b2 ho2
     clear hw2
     obtain ⟨a6,c6,hs6,hS6⟩:=YV (P:=Tryz.prog) (ea:=u8c) Tryz.underlying22 Zi a 5 cap 3 5 hcap (by omega) (by omega)
     have hr6:∀ W,(Instr.slice 22 (.slice a 5 cap) (some (.int .i64 3)) (some (.int .i64 5)) none).run Tryz.prog W=.ok (.slice a6 2 c6) W:=hs6
     have hq6:Z0 u8c 1 w2 (.slice a6 2 c6) ((b.take 5).drop 3):=hS6 w2 b hn (HW.out.1.below b2)
     obtain ⟨w3,hcp,ho3,x3⟩:=XH (l:=List.replicate 4 (0:UInt8)) ho2 hq6 (by simp <;> omega)
     have b3:Below W1.heap.size W1 w3:=Ext.new b2 x3 (fun i hi _ e=>by omega) b2.size
     rw[show (List.replicate 4 (0:UInt8)).length=4 from rfl] at hcp ho3
     clear hs6 hS6 hq6 ho2 x3 b2
     obtain ⟨l4,hl4⟩:=Je ((b.take 5).drop 3++(List.replicate 4 (0:UInt8)).drop ((b.take 5).drop 3).length)
     obtain ⟨xl,hxl⟩:=Je (((b.take 5).drop 3).length)
     rw[hl4] at ho3
     have hl44:l4.length=4:=by rw[←hl4];simp only[List.length_append,List.length_drop,List.length_take,List.length_replicate];omega
     rw[hxl] at hcp
     have hg4:=ho3.slice Z7
     have HB:Hid (Below w.heap.size w w3∧Z0 u8c 1 w3 (.slice a 5 cap) b):=Lib.hid ⟨HW.out.2.trans (b3.mono (by rw[HSZ.out];exact Nat.le_refl _)),HW.out.1.below b3⟩
     have H4:=Jh (And.intro hg4 (And.intro hl44 hl4))
     clear hxl hl4 hl44 hg4 ho3 b3
     go_wp2_with (with_reducible refine Lib.wpList_copy_run _ rfl _ _ _ _ rfl _ _ rfl rfl hcp ?_)
     clear hcp hmk hr6
     refine (XZ _ l4 _ H4.out.1 (by rw[H4.out.2.1];omega)).mono ?_
     rintro e w4 ⟨rfl,rfl⟩
     obtain ⟨N,hN⟩:=Je (YF l4 4)
     have hNlt:N<4294967296:=by rw[←hN];exact XD l4 4
     rw[hN]
     have HNN:=Lib.hid hN
     clear hN
     by_cases hbig:65536<N
     ·have hb1:(65536:Int)<(N:Int):=by omega
      go_wp2_with (go_at_call 162;refine (Y4 _ _).mono ?_;rintro e w9 ⟨rfl,rfl⟩)
      (try simp only[Exit.inBlock,Exit.then])
      refine bodyPost_ret (Zf rfl _ _ _) rfl ?_
      exact .inr ⟨HNO.out,⟨_,by decide,rfl⟩,(by first|exact HB.out.1|exact HB.out)⟩
     ·have hb1:¬ (65536:Int)<(N:Int):=by omega
      go_wp2_with (go_at_call 162;refine (Y4 _ _).mono ?_;rintro e w9 ⟨rfl,rfl⟩)
      (try simp only[Exit.inBlock,Exit.then])
      refine bodyPost_ret (Zf rfl _ _ _) rfl ?_
      exact .inr ⟨HNO.out,⟨_,by decide,rfl⟩,(by first|exact HB.out.1|exact HB.out)⟩
    ·skip
     clear hmk3
     obtain ⟨a3,hs3,hS3⟩:=Yt (P:=Tryz.prog) (ea:=u8c) Tryz.underlying22 Zi a 6 cap 2 hcap (by omega)
     have hr3:∀ W,(Instr.slice 22 (.slice a 6 cap) none (some (.int .i64 2)) none).run Tryz.prog W=.ok (.slice a3 2 cap) W:=hs3
     have hm3:=X8.2.2
     have hq3:=hS3 w b hn HH.out
     clear hs3 hS3
     have hmin2:min (6:Int) 2=2:=by omega
     have hmin3:min (6:Int) 3=3:=by omega
     have hmin7:min (6:Int) 7=6:=by omega
     go_enter Tryz.func111,Tryz.ntmps111
     go_upto_region 3 with fail
     refine Z6 (fun W:World=>Z0 u8c 1 W (.slice a3 2 cap) (b.take 2)) (fun _=>false) (by kernel_rfl) ?_
     have hS0:(fun W:World=>Z0 u8c 1 W (.slice a3 2 cap) (b.take 2)) w.drew:=hq3.below (Below.refl _ _).drew
     have HW:Hid (Z0 u8c 1 w.drew (.slice a 6 cap) b∧Below w.heap.size w w.drew):=Lib.hid ⟨HH.out.below (Below.refl _ _).drew,(Below.refl _ _).drew⟩
     clear hq3
     have hsz:w.drew.heap.size=w.heap.size:=rfl
     generalize w.drew=W1 at hS0 HW hsz ⊢
     have HSZ:=Lib.hid hsz
     clear hsz
     refine J0 0 14 _ hS0 ?_
     try simp only[Ja]
     refine J0 1 15 _ hS0 ?_
     try simp only[Ja]
     refine J0 2 16 (.slice a3 2 cap) hS0 ?_
     try simp only[Ja]
     refine JR 3 17 (.string ⟨(b.take 2).toArray⟩) rfl rfl hS0 (fun W hW=>by have q3:=Zs hW;go_simp;try rfl) ?_
     try simp only[Ja]
     refine J0 4 18 _ hS0 ?_
     try simp only[Ja]
     refine J0 5 19 (.string ⟨([83,84]:List UInt8).toArray⟩) hS0 ?_
     try simp only[Ja]
     refine JR 6 20 (.bool false) rfl rfl hS0 (fun W hW=>by have q4:=HEQ.out;go_simp;try rfl) ?_
     try simp only[Ja]
     refine Z3 (by kernel_rfl) ?_ _
     clear hS0 hr3 hm3
     obtain ⟨i0,hi,hy0,hy1,hy2⟩:=info_parts YO
     have hmk:(Instr.makeSlice 22 (.int .i64 4) (.int .i64 4)).run Tryz.prog W1=.ok (.slice (some ⟨W1.heap.size,0,none⟩) 4 4) (W1.alloc (.cells (madeCells (Value.int .u8 0).cells (4*1)) 5)):=by
      have h:=run_make (P:=Tryz.prog) W1 22 5 i0 _ Tryz.underlying22 hi hy0 .i64 .i64 4 4 (by omega) (by omega) (by rw[hy2];omega) (by omega)
      rw[hy1] at h
      exact h
     clear hi hy0 hy1 hy2
     have b2:Below W1.heap.size W1 (W1.alloc (.cells (madeCells (Value.int .u8 0).cells (4*1)) 5)):=(Below.refl _ _).alloc (Nat.le_refl _) _
     have ho2:=Wd (base:=W1.heap.size) (n:=4) (cap:=4) (W:=W1) (Nat.le_refl _) (by omega) (by omega)
     obtain ⟨w2,hw2⟩:=Je (W1.alloc (.cells (madeCells (Value.int .u8 0).cells (4*1)) 5))
     rw[hw2] at hmk b2 ho2
     clear hw2
     obtain ⟨a6,c6,hs6,hS6⟩:=YV (P:=Tryz.prog) (ea:=u8c) Tryz.underlying22 Zi a 6 cap 3 6 hcap (by omega) (by omega)
     have hr6:∀ W,(Instr.slice 22 (.slice a 6 cap) (some (.int .i64 3)) (some (.int .i64 6)) none).run Tryz.prog W=.ok (.slice a6 3 c6) W:=hs6
     have hq6:Z0 u8c 1 w2 (.slice a6 3 c6) ((b.take 6).drop 3):=hS6 w2 b hn (HW.out.1.below b2)
     obtain ⟨w3,hcp,ho3,x3⟩:=XH (l:=List.replicate 4 (0:UInt8)) ho2 hq6 (by simp <;> omega)
     have b3:Below W1.heap.size W1 w3:=Ext.new b2 x3 (fun i hi _ e=>by omega) b2.size
     rw[show (List.replicate 4 (0:UInt8)).length=4 from rfl] at hcp ho3
     clear hs6 hS6 hq6 ho2 x3 b2
     obtain ⟨l4,hl4⟩:=Je ((b.take 6).drop 3++(List.replicate 4 (0:UInt8)).drop ((b.take 6).drop 3).length)
     obtain ⟨xl,hxl⟩:=Je (((b.take 6).drop 3).length)
     rw[hl4] at ho3
     have hl44:l4.length=4:=by rw[←hl4];simp only[List.length_append,List.length_drop,List.length_take,List.length_replicate];omega
     rw[hxl] at hcp
     have hg4:=ho3.slice Z7
     have HB:Hid (Below w.heap.size w w3∧Z0 u8c 1 w3 (.slice a 6 cap) b):=Lib.hid ⟨HW.out.2.trans (b3.mono (by rw[HSZ.out];exact Nat.le_refl _)),HW.out.1.below b3⟩
     have H4:=Jh (And.intro hg4 (And.intro hl44 hl4))
     clear hxl hl4 hl44 hg4 ho3 b3
     go_wp2_with (with_reducible refine Lib.wpList_copy_run _ rfl _ _ _ _ rfl _ _ rfl rfl hcp ?_)
     clear hcp hmk hr6
     refine (XZ _ l4 _ H4.out.1 (by rw[H4.out.2.1];omega)).mono ?_
     rintro e w4 ⟨rfl,rfl⟩
     obtain ⟨N,hN⟩:=Je (YF l4 4)
     have hNlt:N<4294967296:=by rw[←hN];exact XD l4 4
     rw[hN]
     have HNN:=Lib.hid hN
     clear hN
     by_cases hbig:65536<N
     ·have hb1:(65536:Int)<(N:Int):=by omega
      go_wp2_with (go_at_call 162;refine (Y4 _ _).mono ?_;rintro e w9 ⟨rfl,rfl⟩)
      (try simp only[Exit.inBlock,Exit.then])
      refine bodyPost_ret (Zf rfl _ _ _) rfl ?_
      exact .inr ⟨HNO.out,⟨_,by decide,rfl⟩,(by first|exact HB.out.1|exact HB.out)⟩
     ·have hb1:¬ (65536:Int)<(N:Int):=by omega
      go_wp2_with (go_at_call 162;refine (Y4 _ _).mono ?_;rintro e w9 ⟨rfl,rfl⟩)
      (try simp only[Exit.inBlock,Exit.then])
      refine bodyPost_ret (Zf rfl _ _ _) rfl ?_
      exact .inr ⟨HNO.out,⟨_,by decide,rfl⟩,(by first|exact HB.out.1|exact HB.out)⟩
    ·skip
     clear hmk3
     obtain ⟨a3,hs3,hS3⟩:=Yt (P:=Tryz.prog) (ea:=u8c) Tryz.underlying22 Zi a 7 cap 2 hcap (by omega)
     have hr3:∀ W,(Instr.slice 22 (.slice a 7 cap) none (some (.int .i64 2)) none).run Tryz.prog W=.ok (.slice a3 2 cap) W:=hs3
     have hm3:=X8.2.2
     have hq3:=hS3 w b hn HH.out
     clear hs3 hS3
     have hmin2:min (7:Int) 2=2:=by omega
     have hmin3:min (7:Int) 3=3:=by omega
     have hmin7:min (7:Int) 7=7:=by omega
     go_enter Tryz.func111,Tryz.ntmps111
     go_upto_region 3 with fail
     refine Z6 (fun W:World=>Z0 u8c 1 W (.slice a3 2 cap) (b.take 2)) (fun _=>false) (by kernel_rfl) ?_
     have hS0:(fun W:World=>Z0 u8c 1 W (.slice a3 2 cap) (b.take 2)) w.drew:=hq3.below (Below.refl _ _).drew
     have HW:Hid (Z0 u8c 1 w.drew (.slice a 7 cap) b∧Below w.heap.size w w.drew):=Lib.hid ⟨HH.out.below (Below.refl _ _).drew,(Below.refl _ _).drew⟩
     clear hq3
     have hsz:w.drew.heap.size=w.heap.size:=rfl
     generalize w.drew=W1 at hS0 HW hsz ⊢
     have HSZ:=Lib.hid hsz
     clear hsz
     refine J0 0 14 _ hS0 ?_
     try simp only[Ja]
     refine J0 1 15 _ hS0 ?_
     try simp only[Ja]
     refine J0 2 16 (.slice a3 2 cap) hS0 ?_
     try simp only[Ja]
     refine JR 3 17 (.string ⟨(b.take 2).toArray⟩) rfl rfl hS0 (fun W hW=>by have q3:=Zs hW;go_simp;try rfl) ?_
     try simp only[Ja]
     refine J0 4 18 _ hS0 ?_
     try simp only[Ja]
     refine J0 5 19 (.string ⟨([83,84]:List UInt8).toArray⟩) hS0 ?_
     try simp only[Ja]
     refine JR 6 20 (.bool false) rfl rfl hS0 (fun W hW=>by have q4:=HEQ.out;go_simp;try rfl) ?_
     try simp only[Ja]
     refine Z3 (by kernel_rfl) ?_ _
     clear hS0 hr3 hm3
     obtain ⟨i0,hi,hy0,hy1,hy2⟩:=info_parts YO
     have hmk:(Instr.makeSlice 22 (.int .i64 4) (.int .i64 4)).run Tryz.prog W1=.ok (.slice (some ⟨W1.heap.size,0,none⟩) 4 4) (W1.alloc (.cells (madeCells (Value.int .u8 0).cells (4*1)) 5)):=by
      have h:=run_make (P:=Tryz.prog) W1 22 5 i0 _ Tryz.underlying22 hi hy0 .i64 .i64 4 4 (by omega) (by omega) (by rw[hy2];omega) (by omega)
      rw[hy1] at h
      exact h
     clear hi hy0 hy1 hy2
     have b2:Below W1.heap.size W1 (W1.alloc (.cells (madeCells (Value.int .u8 0).cells (4*1)) 5)):=(Below.refl _ _).alloc (Nat.le_refl _) _
     have ho2:=Wd (base:=W1.heap.size) (n:=4) (cap:=4) (W:=W1) (Nat.le_refl _) (by omega) (by omega)
     obtain ⟨w2,hw2⟩:=Je (W1.alloc (.cells (madeCells (Value.int .u8 0).cells (4*1)) 5))
     rw[hw2] at hmk b2 ho2
     clear hw2
     obtain ⟨a6,c6,hs6,hS6⟩:=YV (P:=Tryz.prog) (ea:=u8c) Tryz.underlying22 Zi a 7 cap 3 7 hcap (by omega) (by omega)
     have hr6:∀ W,(Instr.slice 22 (.slice a 7 cap) (some (.int .i64 3)) (some (.int .i64 7)) none).run Tryz.prog W=.ok (.slice a6 4 c6) W:=hs6
     have hq6:Z0 u8c 1 w2 (.slice a6 4 c6) ((b.take 7).drop 3):=hS6 w2 b hn (HW.out.1.below b2)
     obtain ⟨w3,hcp,ho3,x3⟩:=XH (l:=List.replicate 4 (0:UInt8)) ho2 hq6 (by simp <;> omega)
     have b3:Below W1.heap.size W1 w3:=Ext.new b2 x3 (fun i hi _ e=>by omega) b2.size
     rw[show (List.replicate 4 (0:UInt8)).length=4 from rfl] at hcp ho3
     clear hs6 hS6 hq6 ho2 x3 b2
     obtain ⟨l4,hl4⟩:=Je ((b.take 7).drop 3++(List.replicate 4 (0:UInt8)).drop ((b.take 7).drop 3).length)
     obtain ⟨xl,hxl⟩:=Je (((b.take 7).drop 3).length)
     rw[hl4] at ho3
     have hl44:l4.length=4:=by rw[←hl4];simp only[List.length_append,List.length_drop,List.length_take,List.length_replicate];omega
     rw[hxl] at hcp
     have hg4:=ho3.slice Z7
     have HB:Hid (Below w.heap.size w w3∧Z0 u8c 1 w3 (.slice a 7 cap) b):=Lib.hid ⟨HW.out.2.trans (b3.mono (by rw[HSZ.out];exact Nat.le_refl _)),HW.out.1.below b3⟩
     have H4:=Jh (And.intro hg4 (And.intro hl44 hl4))
     clear hxl hl4 hl44 hg4 ho3 b3
     go_wp2_with (with_reducible refine Lib.wpList_copy_run _ rfl _ _ _ _ rfl _ _ rfl rfl hcp ?_)
     clear hcp hmk hr6
     refine (XZ _ l4 _ H4.out.1 (by rw[H4.out.2.1];omega)).mono ?_
     rintro e w4 ⟨rfl,rfl⟩
     obtain ⟨N,hN⟩:=Je (YF l4 4)
     have hNlt:N<4294967296:=by rw[←hN];exact XD l4 4
     rw[hN]
     have HNN:=Lib.hid hN
     clear hN
     by_cases hbig:65536<N
     ·have hb1:(65536:Int)<(N:Int):=by omega
      go_wp2_with (go_at_call 162;refine (Y4 _ _).mono ?_;rintro e w9 ⟨rfl,rfl⟩)
      (try simp only[Exit.inBlock,Exit.then])
      refine bodyPost_ret (Zf rfl _ _ _) rfl ?_
      exact .inr ⟨HNO.out,⟨_,by decide,rfl⟩,(by first|exact HB.out.1|exact HB.out)⟩
     ·have hb1:¬ (65536:Int)<(N:Int):=by omega
      have hb2:(-4:Int)<(N:Int):=by omega
      go_wp2_with (go_at_call 162;refine (Y4 _ _).mono ?_;rintro e w9 ⟨rfl,rfl⟩)
      (try simp only[Exit.inBlock,Exit.then])
      refine bodyPost_ret (Zf rfl _ _ _) rfl ?_
      exact .inr ⟨HNO.out,⟨_,by decide,rfl⟩,(by first|exact HB.out.1|exact HB.out)⟩
   ·skip
    have HMK:=Lib.hid hmk3
    obtain ⟨a3,hs3,hS3⟩:=Yt (P:=Tryz.prog) (ea:=u8c) Tryz.underlying22 Zi a n cap 2 hcap (by omega)
    have hr3:∀ W,(Instr.slice 22 (.slice a n cap) none (some (.int .i64 2)) none).run Tryz.prog W=.ok (.slice a3 2 cap) W:=hs3
    have hm3:=X8.2.2
    have hq3:=hS3 w b hn HH.out
    clear hs3 hS3
    have hmin2:min ((n:Int):Int) 2=2:=by omega
    have hmin3:min ((n:Int):Int) 3=3:=by omega
    have hmin7:min ((n:Int):Int) 7=7:=by omega
    go_enter Tryz.func111,Tryz.ntmps111
    go_upto_region 3 with fail
    refine Z6 (fun W:World=>Z0 u8c 1 W (.slice a3 2 cap) (b.take 2)) (fun _=>false) (by kernel_rfl) ?_
    have hS0:(fun W:World=>Z0 u8c 1 W (.slice a3 2 cap) (b.take 2)) w.drew:=hq3.below (Below.refl _ _).drew
    have HW:Hid (Z0 u8c 1 w.drew (.slice a n cap) b∧Below w.heap.size w w.drew):=Lib.hid ⟨HH.out.below (Below.refl _ _).drew,(Below.refl _ _).drew⟩
    clear hq3
    have hsz:w.drew.heap.size=w.heap.size:=rfl
    generalize w.drew=W1 at hS0 HW hsz ⊢
    have HSZ:=Lib.hid hsz
    clear hsz
    refine J0 0 14 _ hS0 ?_
    try simp only[Ja]
    refine J0 1 15 _ hS0 ?_
    try simp only[Ja]
    refine J0 2 16 (.slice a3 2 cap) hS0 ?_
    try simp only[Ja]
    refine JR 3 17 (.string ⟨(b.take 2).toArray⟩) rfl rfl hS0 (fun W hW=>by have q3:=Zs hW;go_simp;try rfl) ?_
    try simp only[Ja]
    refine J0 4 18 _ hS0 ?_
    try simp only[Ja]
    refine J0 5 19 (.string ⟨([83,84]:List UInt8).toArray⟩) hS0 ?_
    try simp only[Ja]
    refine JR 6 20 (.bool false) rfl rfl hS0 (fun W hW=>by have q4:=HEQ.out;go_simp;try rfl) ?_
    try simp only[Ja]
    refine Z3 (by kernel_rfl) ?_ _
    clear hS0 hr3 hm3
    obtain ⟨i0,hi,hy0,hy1,hy2⟩:=info_parts YO
    have hmk:(Instr.makeSlice 22 (.int .i64 4) (.int .i64 4)).run Tryz.prog W1=.ok (.slice (some ⟨W1.heap.size,0,none⟩) 4 4) (W1.alloc (.cells (madeCells (Value.int .u8 0).cells (4*1)) 5)):=by
     have h:=run_make (P:=Tryz.prog) W1 22 5 i0 _ Tryz.underlying22 hi hy0 .i64 .i64 4 4 (by omega) (by omega) (by rw[hy2];omega) (by omega)
     rw[hy1] at h
     exact h
    clear hi hy0 hy1 hy2
    have b2:Below W1.heap.size W1 (W1.alloc (.cells (madeCells (Value.int .u8 0).cells (4*1)) 5)):=(Below.refl _ _).alloc (Nat.le_refl _) _
    have ho2:=Wd (base:=W1.heap.size) (n:=4) (cap:=4) (W:=W1) (Nat.le_refl _) (by omega) (by omega)
    obtain ⟨w2,hw2⟩:=Je (W1.alloc (.cells (madeCells (Value.int .u8 0).cells (4*1)) 5))
    rw[hw2] at hmk b2 ho2
    clear hw2
    obtain ⟨a6,c6,hs6,hS6⟩:=YV (P:=Tryz.prog) (ea:=u8c) Tryz.underlying22 Zi a n cap 3 7 hcap (by omega) (by omega)
    have hr6:∀ W,(Instr.slice 22 (.slice a n cap) (some (.int .i64 3)) (some (.int .i64 7)) none).run Tryz.prog W=.ok (.slice a6 4 c6) W:=hs6
    have hq6:Z0 u8c 1 w2 (.slice a6 4 c6) ((b.take 7).drop 3):=hS6 w2 b hn (HW.out.1.below b2)
    obtain ⟨w3,hcp,ho3,x3⟩:=XH (l:=List.replicate 4 (0:UInt8)) ho2 hq6 (by simp <;> omega)
    have b3:Below W1.heap.size W1 w3:=Ext.new b2 x3 (fun i hi _ e=>by omega) b2.size
    rw[show (List.replicate 4 (0:UInt8)).length=4 from rfl] at hcp ho3
    clear hs6 hS6 hq6 ho2 x3 b2
    obtain ⟨l4,hl4⟩:=Je ((b.take 7).drop 3++(List.replicate 4 (0:UInt8)).drop ((b.take 7).drop 3).length)
    obtain ⟨xl,hxl⟩:=Je (((b.take 7).drop 3).length)
    rw[hl4] at ho3
    have hl44:l4.length=4:=by rw[←hl4];simp only[List.length_append,List.length_drop,List.length_take,List.length_replicate];omega
    rw[hxl] at hcp
    have hg4:=ho3.slice Z7
    have HB:Hid (Below w.heap.size w w3∧Z0 u8c 1 w3 (.slice a n cap) b):=Lib.hid ⟨HW.out.2.trans (b3.mono (by rw[HSZ.out];exact Nat.le_refl _)),HW.out.1.below b3⟩
    have H4:=Jh (And.intro hg4 (And.intro hl44 hl4))
    clear hxl hl4 hl44 hg4 ho3 b3
    go_wp2_with (with_reducible refine Lib.wpList_copy_run _ rfl _ _ _ _ rfl _ _ rfl rfl hcp ?_)
    clear hcp hmk hr6
    refine (XZ _ l4 _ H4.out.1 (by rw[H4.out.2.1];omega)).mono ?_
    rintro e w4 ⟨rfl,rfl⟩
    obtain ⟨N,hN⟩:=Je (YF l4 4)
    have hNlt:N<4294967296:=by rw[←hN];exact XD l4 4
    rw[hN]
    have HNN:=Lib.hid hN
    clear hN
    have HP:Hid (YF ((b.take 7).drop 3) 4=N):=Jh (by rw[←Z7x (by omega) H4.out.2.2];exact HNN.out)
    by_cases hbig:65536<N
    ·have hb1:(65536:Int)<(N:Int):=by omega
     go_wp2_with (go_at_call 162;refine (Y4 _ _).mono ?_;rintro e w9 ⟨rfl,rfl⟩)
     (try simp only[Exit.inBlock,Exit.then])
     refine bodyPost_ret (Zf rfl _ _ _) rfl ?_
     exact .inr ⟨Z1x (by omega) HP.out (.inl hbig),⟨_,by decide,rfl⟩,(by first|exact HB.out.1|exact HB.out)⟩
    ·have hb1:¬ (65536:Int)<(N:Int):=by omega
     have hs7:¬ (n:Int)<7:=by omega
     by_cases hsh:n<11+N
     ·have hs2:(n:Int) - 11<(N:Int):=by omega
      go_wp2_with (go_at_call 162;refine (Y4 _ _).mono ?_;rintro e w9 ⟨rfl,rfl⟩)
      (try simp only[Exit.inBlock,Exit.then])
      refine bodyPost_ret (Zf rfl _ _ _) rfl ?_
      exact .inr ⟨Z1x (by omega) HP.out (.inr (by omega)),⟨_,by decide,rfl⟩,(by first|exact HB.out.1|exact HB.out)⟩
     ·have hs2:¬ (n:Int) - 11<(N:Int):=by omega
      obtain ⟨a12,hs12,hS12⟩:=Yt (P:=Tryz.prog) (ea:=u8c) Tryz.underlying22 Zi a n cap (11+N) hcap (by omega)
      have hr12:∀ W,(Instr.slice 22 (.slice a n cap) none (some (.int .i64 (11+(N:Int)))) none).run Tryz.prog W=.ok (.slice a12 (11+N) cap) W:=fun W=>by
       have:=hs12 W
       rwa [show ((11+N:Nat):Int)=11+(N:Int) by omega] at this
      have hcap2:11+N≤cap:=by omega
      obtain ⟨a13,c13,hs13,hS13,-⟩:=ZE (P:=Tryz.prog) (ea:=u8c) Tryz.underlying22 Zi a12 (11+N) cap 7 hcap2 (by omega)
      have hr13:∀ W,(Instr.slice 22 (.slice a12 (11+N) cap) (some (.int .i64 7)) none none).run Tryz.prog W=.ok (.slice a13 (11+N - 7) c13) W:=hs13
      obtain ⟨a15,c15,hs15,hS15,-⟩:=ZE (P:=Tryz.prog) (ea:=u8c) Tryz.underlying22 Zi a12 (11+N) cap 11 hcap2 (by omega)
      have hr15:∀ W,(Instr.slice 22 (.slice a12 (11+N) cap) (some (.int .i64 11)) none none).run Tryz.prog W=.ok (.slice a15 (11+N - 11) c15) W:=hs15
      obtain ⟨F,hF⟩:=Je (b.take (11+N))
      have hFl:F.length=11+N:=by rw[←hF,List.length_take];omega
      have hsum:=Z5z (b:=b) (by omega) HP.out (by omega) (by omega) HMK.out
      rw[hF] at hsum
      have hq12:=hS12 w3 b hn HB.out.2
      rw[hF] at hq12
      have H12:=Jh (And.intro hq12 (And.intro (hS13 w3 F hFl hq12) (And.intro (hS15 w3 F hFl hq12) (And.intro hFl (And.intro hsum hF)))))
      clear hs12 hS12 hs13 hS13 hs15 hS15 hF hFl hsum hq12
      have hNb:N≤65536:=by omega
      go_wp2_with fail
      refine (XZ _ (F.drop 7) _ H12.out.2.1 (by rw[List.length_drop,H12.out.2.2.2.1];omega)).mono ?_
      rintro e w4 ⟨rfl,rfl⟩
      obtain ⟨c1,hc1⟩:=Je (YF (F.drop 7) 4)
      rw[hc1]
      have HC1:=Lib.hid hc1
      clear hc1
      go_wp2_with fail
      refine (RV _ F _ H12.out.1 (by rw[H12.out.2.2.2.1];omega) (by rw[H12.out.2.2.2.1];omega)).mono ?_
      rintro e w5 ⟨v5,rfl,own5,b5⟩
      have H5:=Jh (And.intro (own5.slice Z7) b5)
      clear own5 b5
      go_wp2_with fail
      refine (Z4j v5 _ w5 H5.out.1).mono ?_
      rintro e w6 ⟨rfl,b6⟩
      have H6:=Jh (show Below w3.heap.size w3 w6 from H5.out.2.trans (b6.mono H5.out.2.size))
      clear b6
      obtain ⟨c2,hc2⟩:=Je (Wf ((F.take 7).drop 2++F.drop 11))
      rw[hc2]
      have HC2:=Lib.hid hc2
      clear hc2
      have hsm:=H12.out.2.2.2.2.1
      rw[HC1.out,HC2.out] at hsm
      by_cases heq:c1=c2
      rotate_left
      ·have hne:¬ (c1:Int)=(c2:Int):=by omega
       have HNO:=Jh (hsm.2 heq)
       have HBB:Hid (Below w.heap.size w w6):=Jh (HB.out.1.trans (H6.out.mono HB.out.1.size))
       clear hsm
       go_wp2_with (go_at_call 162;refine (Y4 _ _).mono ?_;rintro e w9 ⟨rfl,rfl⟩)
       (try simp only[Exit.inBlock,Exit.then])
       refine bodyPost_ret (Zf rfl _ _ _) rfl ?_
       exact .inr ⟨HNO.out,⟨_,by decide,rfl⟩,HBB.out⟩
      ·subst heq
       obtain ⟨k,hk2,htk⟩:=hsm.1 rfl
       have hkF:F[2]?=some k:=by rw[←H12.out.2.2.2.2.2,List.getElem?_take_of_lt (by omega)];exact hk2
       have hq6:=H12.out.1.below H6.out
       obtain ⟨fb,fo,rfl,ck⟩:=hq6.at1 (k:=2) hkF rfl
       have HTK:=Lib.hid htk
       have HBB:Hid (Below w.heap.size w w6):=Jh (HB.out.1.trans (H6.out.mono HB.out.1.size))
       have H15:=Jh (And.intro (H12.out.2.2.1.below H6.out) H12.out.2.2.2.1)
       clear hsm hk2 htk hkF hq6 hr12 hr13 H12
       have h2N:(2:Int)<11+(N:Int):=by omega
       go_wp2_with fail
       refine Z6 (fun W:World=>W.cell? ⟨fb,fo+2,none⟩=some (.int .u8 (k.toNat:Int))) (fun _=>false) (by kernel_rfl) ?_
       have hS0:(fun W:World=>W.cell? ⟨fb,fo+2,none⟩=some (.int .u8 (k.toNat:Int))) w6.drew:=ck
       have HBD:Hid (Below w.heap.size w w6.drew∧Z0 u8c 1 w6.drew (.slice a15 (11+N - 11) c15) (F.drop 11)):=Lib.hid ⟨HBB.out.drew,H15.out.1.below (Below.refl _ _).drew⟩
       clear ck
       generalize w6.drew=W7 at hS0 HBD ⊢
       refine J0 0 85 _ hS0 ?_
       try simp only[Ja]
       refine J0 1 86 (.pointer (some ⟨fb,fo+2,none⟩)) hS0 ?_
       try simp only[Ja]
       refine J0 2 87 _ hS0 ?_
       try simp only[Ja]
       refine J0 3 88 _ hS0 ?_
       try simp only[Ja]
       refine J0 4 89 (.slice a15 (11+N - 11) c15) hS0 ?_
       try simp only[Ja]
       refine J0 6 91 _ hS0 ?_
       try simp only[Ja]
       refine J0 7 92 (.int .i64 ((11+N:Nat):Int)) hS0 ?_
       try simp only[Ja]
       refine Zm (i:=5) (d:=some 90) (f:=71) (args:=#[.slice a15 (11+N - 11) c15]) (w':=W7) (by kernel_rfl) rfl rfl (by rfl) (by go_simp;try rfl) ?_
       refine (Z0r HBD.out.2 (by rw[List.length_drop,H15.out.2];omega)).mono ?_
       rintro e w8 ⟨v8,rfl,own8,b8⟩
       obtain ⟨⟨ta,tn,tc⟩,e8⟩:=own8.sl
       dsimp only at e8
       subst e8
       refine ⟨_,rfl,fun _=>Y9 b8 hS0,?_⟩
       try simp only[Ja]
       have hS8:(fun W:World=>W.cell? ⟨fb,fo+2,none⟩=some (.int .u8 (k.toNat:Int))) w8:=Y9 b8 hS0
       refine J0 8 2 _ hS8 ?_
       try simp only[Ja]
       refine J0 9 3 _ hS8 ?_
       try simp only[Ja]
       refine J0 10 4 _ hS8 ?_
       try simp only[Ja]
       refine J0 11 5 _ hS8 ?_
       try simp only[Ja]
       refine Z3 (by kernel_rfl) ?_ _
       have HFIN:=Jh (And.intro (own8.mono HBD.out.1.size) (HBD.out.1.trans (b8.mono HBD.out.1.size)))
       clear own8 b8 hS8 hS0 hr15
       go_wp2_with fail
       (try simp only[Exit.inBlock,Exit.then])
       refine bodyPost_ret (Zf rfl _ _ _) rfl ?_
       refine .inl ⟨k,F.drop 11,_,HTK.out,?_,HFIN.out.1,HFIN.out.2⟩
       have e11:11+(F.drop 11).length=11+N:=by rw[List.length_drop,H15.out.2];omega
       rw[e11]
       rfl
  ·have HNE:=Lib.hid hmk2
   have HNO:Hid (Yp b=none):=Jh (Classical.byContradiction fun h=>hmk2 (Z0g h))
   clear hmk2
   rcases (by omega:n=2∨2<n) with rfl|h2n
   ·skip
    obtain ⟨a3,hs3,hS3⟩:=Yt (P:=Tryz.prog) (ea:=u8c) Tryz.underlying22 Zi a 2 cap 2 hcap (by omega)
    have hr3:∀ W,(Instr.slice 22 (.slice a 2 cap) none (some (.int .i64 2)) none).run Tryz.prog W=.ok (.slice a3 2 cap) W:=hs3
    have hm3:=X8.2.2
    have hq3:=hS3 w b hn HH.out
    clear hs3 hS3
    have hmin2:min (2:Int) 2=2:=by omega
    have hmin3:min (2:Int) 3=2:=by omega
    have hmin7:min (2:Int) 7=2:=by omega
    go_enter Tryz.func111,Tryz.ntmps111
    go_upto_region 3 with fail
    refine Z6 (fun W:World=>Z0 u8c 1 W (.slice a3 2 cap) (b.take 2)) (fun _=>false) (by kernel_rfl) ?_
    have hS0:(fun W:World=>Z0 u8c 1 W (.slice a3 2 cap) (b.take 2)) w.drew:=hq3.below (Below.refl _ _).drew
    have HW:Hid (Z0 u8c 1 w.drew (.slice a 2 cap) b∧Below w.heap.size w w.drew):=Lib.hid ⟨HH.out.below (Below.refl _ _).drew,(Below.refl _ _).drew⟩
    clear hq3
    have hsz:w.drew.heap.size=w.heap.size:=rfl
    generalize w.drew=W1 at hS0 HW hsz ⊢
    have HSZ:=Lib.hid hsz
    clear hsz
    refine J0 0 14 _ hS0 ?_
    try simp only[Ja]
    refine J0 1 15 _ hS0 ?_
    try simp only[Ja]
    refine J0 2 16 (.slice a3 2 cap) hS0 ?_
    try simp only[Ja]
    refine JR 3 17 (.string ⟨(b.take 2).toArray⟩) rfl rfl hS0 (fun W hW=>by have q3:=Zs hW;go_simp;try rfl) ?_
    try simp only[Ja]
    refine J0 4 18 _ hS0 ?_
    try simp only[Ja]
    refine J0 5 19 (.string ⟨([83,84]:List UInt8).toArray⟩) hS0 ?_
    try simp only[Ja]
    refine JR 6 20 (.bool true) rfl rfl hS0 (fun W hW=>by have q4:=HNE.out;go_simp;try rfl) ?_
    try simp only[Ja]
    refine Z3 (by kernel_rfl) ?_ _
    clear hS0 hr3 hm3
    have HB:Hid (Below w.heap.size w W1):=Lib.hid HW.out.2
    go_wp2_with (go_at_call 162;refine (Y4 _ _).mono ?_;rintro e w9 ⟨rfl,rfl⟩)
    (try simp only[Exit.inBlock,Exit.then])
    refine bodyPost_ret (Zf rfl _ _ _) rfl ?_
    exact .inr ⟨HNO.out,⟨_,by decide,rfl⟩,(by first|exact HB.out.1|exact HB.out)⟩
   ·skip
    obtain ⟨a3,hs3,hS3⟩:=Yt (P:=Tryz.prog) (ea:=u8c) Tryz.underlying22 Zi a n cap 2 hcap (by omega)
    have hr3:∀ W,(Instr.slice 22 (.slice a n cap) none (some (.int .i64 2)) none).run Tryz.prog W=.ok (.slice a3 2 cap) W:=hs3
    have hm3:=X8.2.2
    have hq3:=hS3 w b hn HH.out
    clear hs3 hS3
    have hmin2:min ((n:Int):Int) 2=2:=by omega
    go_enter Tryz.func111,Tryz.ntmps111
    go_upto_region 3 with fail
    refine Z6 (fun W:World=>Z0 u8c 1 W (.slice a3 2 cap) (b.take 2)) (fun _=>false) (by kernel_rfl) ?_
    have hS0:(fun W:World=>Z0 u8c 1 W (.slice a3 2 cap) (b.take 2)) w.drew:=hq3.below (Below.refl _ _).drew
    have HW:Hid (Z0 u8c 1 w.drew (.slice a n cap) b∧Below w.heap.size w w.drew):=Lib.hid ⟨HH.out.below (Below.refl _ _).drew,(Below.refl _ _).drew⟩
    clear hq3
    have hsz:w.drew.heap.size=w.heap.size:=rfl
    generalize w.drew=W1 at hS0 HW hsz ⊢
    have HSZ:=Lib.hid hsz
    clear hsz
    refine J0 0 14 _ hS0 ?_
    try simp only[Ja]
    refine J0 1 15 _ hS0 ?_
    try simp only[Ja]
    refine J0 2 16 (.slice a3 2 cap) hS0 ?_
    try simp only[Ja]
    refine JR 3 17 (.string ⟨(b.take 2).toArray⟩) rfl rfl hS0 (fun W hW=>by have q3:=Zs hW;go_simp;try rfl) ?_
    try simp only[Ja]
    refine J0 4 18 _ hS0 ?_
    try simp only[Ja]
    refine J0 5 19 (.string ⟨([83,84]:List UInt8).toArray⟩) hS0 ?_
    try simp only[Ja]
    refine JR 6 20 (.bool true) rfl rfl hS0 (fun W hW=>by have q4:=HNE.out;go_simp;try rfl) ?_
    try simp only[Ja]
    refine Z3 (by kernel_rfl) ?_ _
    clear hS0 hr3 hm3
    have HB:Hid (Below w.heap.size w W1):=Lib.hid HW.out.2
    go_wp2_with (go_at_call 162;refine (Y4 _ _).mono ?_;rintro e w9 ⟨rfl,rfl⟩)
    (try simp only[Exit.inBlock,Exit.then])
    refine bodyPost_ret (Zf rfl _ _ _) rfl ?_
    exact .inr ⟨HNO.out,⟨_,by decide,rfl⟩,(by first|exact HB.out.1|exact HB.out)⟩
 ·have HNO:=Jh (Xs (b:=b) (by omega))
  rcases (by omega:n=0∨n=1) with rfl|rfl
  ·have hm0:b.take 0=[]:=rfl
   have HEQ:Hid ((⟨(b.take 0).toArray⟩:ByteArray)=⟨([]:List UInt8).toArray⟩):=Lib.hid rfl
   obtain ⟨a3,hs3,hS3⟩:=Yt (P:=Tryz.prog) (ea:=u8c) Tryz.underlying22 Zi a 0 cap 0 hcap (by omega)
   have hr3:∀ W,(Instr.slice 22 (.slice a 0 cap) none (some (.int .i64 0)) none).run Tryz.prog W=.ok (.slice a3 0 cap) W:=hs3
   have hm3:=X8.1
   have hq3:=hS3 w b hn HH.out
   clear hs3 hS3
   have hmin2:min (0:Int) 2=0:=by omega
   have hmin3:min (0:Int) 3=0:=by omega
   have hmin7:min (0:Int) 7=0:=by omega
   go_enter Tryz.func111,Tryz.ntmps111
   go_upto_region 3 with fail
   refine Z6 (fun W:World=>Z0 u8c 1 W (.slice a3 0 cap) (b.take 0)) (fun _=>false) (by kernel_rfl) ?_
   have hS0:(fun W:World=>Z0 u8c 1 W (.slice a3 0 cap) (b.take 0)) w.drew:=hq3.below (Below.refl _ _).drew
   have HW:Hid (Z0 u8c 1 w.drew (.slice a 0 cap) b∧Below w.heap.size w w.drew):=Lib.hid ⟨HH.out.below (Below.refl _ _).drew,(Below.refl _ _).drew⟩
   clear hq3
   have hsz:w.drew.heap.size=w.heap.size:=rfl
   generalize w.drew=W1 at hS0 HW hsz ⊢
   have HSZ:=Lib.hid hsz
   clear hsz
   refine J0 0 14 _ hS0 ?_
   try simp only[Ja]
   refine J0 1 15 _ hS0 ?_
   try simp only[Ja]
   refine J0 2 16 (.slice a3 0 cap) hS0 ?_
   try simp only[Ja]
   refine JR 3 17 (.string ⟨(b.take 0).toArray⟩) rfl rfl hS0 (fun W hW=>by have q3:=Zs hW;go_simp;try rfl) ?_
   try simp only[Ja]
   refine J0 4 18 _ hS0 ?_
   try simp only[Ja]
   refine J0 5 19 (.string ⟨([]:List UInt8).toArray⟩) hS0 ?_
   try simp only[Ja]
   refine JR 6 20 (.bool false) rfl rfl hS0 (fun W hW=>by have q4:=HEQ.out;go_simp;try rfl) ?_
   try simp only[Ja]
   refine Z3 (by kernel_rfl) ?_ _
   clear hS0 hr3 hm3
   obtain ⟨i0,hi,hy0,hy1,hy2⟩:=info_parts YO
   have hmk:(Instr.makeSlice 22 (.int .i64 4) (.int .i64 4)).run Tryz.prog W1=.ok (.slice (some ⟨W1.heap.size,0,none⟩) 4 4) (W1.alloc (.cells (madeCells (Value.int .u8 0).cells (4*1)) 5)):=by
    have h:=run_make (P:=Tryz.prog) W1 22 5 i0 _ Tryz.underlying22 hi hy0 .i64 .i64 4 4 (by omega) (by omega) (by rw[hy2];omega) (by omega)
    rw[hy1] at h
    exact h
   clear hi hy0 hy1 hy2
   have b2:Below W1.heap.size W1 (W1.alloc (.cells (madeCells (Value.int .u8 0).cells (4*1)) 5)):=(Below.refl _ _).alloc (Nat.le_refl _) _
   have ho2:=Wd (base:=W1.heap.size) (n:=4) (cap:=4) (W:=W1) (Nat.le_refl _) (by omega) (by omega)
   obtain ⟨w2,hw2⟩:=Je (W1.alloc (.cells (madeCells (Value.int .u8 0).cells (4*1)) 5))
   rw[hw2] at hmk b2 ho2
   clear hw2
   obtain ⟨a6,c6,hs6,hS6⟩:=YV (P:=Tryz.prog) (ea:=u8c) Tryz.underlying22 Zi a 0 cap 0 0 hcap (by omega) (by omega)
   have hr6:∀ W,(Instr.slice 22 (.slice a 0 cap) (some (.int .i64 0)) (some (.int .i64 0)) none).run Tryz.prog W=.ok (.slice a6 0 c6) W:=hs6
   have hq6:Z0 u8c 1 w2 (.slice a6 0 c6) ((b.take 0).drop 0):=hS6 w2 b hn (HW.out.1.below b2)
   obtain ⟨w3,hcp,ho3,x3⟩:=XH (l:=List.replicate 4 (0:UInt8)) ho2 hq6 (by simp <;> omega)
   have b3:Below W1.heap.size W1 w3:=Ext.new b2 x3 (fun i hi _ e=>by omega) b2.size
   rw[show (List.replicate 4 (0:UInt8)).length=4 from rfl] at hcp ho3
   clear hs6 hS6 hq6 ho2 x3 b2
   obtain ⟨l4,hl4⟩:=Je ((b.take 0).drop 0++(List.replicate 4 (0:UInt8)).drop ((b.take 0).drop 0).length)
   obtain ⟨xl,hxl⟩:=Je (((b.take 0).drop 0).length)
   rw[hl4] at ho3
   have hl44:l4.length=4:=by rw[←hl4];simp only[List.length_append,List.length_drop,List.length_take,List.length_replicate];omega
   rw[hxl] at hcp
   have hg4:=ho3.slice Z7
   have HB:Hid (Below w.heap.size w w3∧Z0 u8c 1 w3 (.slice a 0 cap) b):=Lib.hid ⟨HW.out.2.trans (b3.mono (by rw[HSZ.out];exact Nat.le_refl _)),HW.out.1.below b3⟩
   have H4:=Jh (And.intro hg4 (And.intro hl44 hl4))
   clear hxl hl4 hl44 hg4 ho3 b3
   go_wp2_with (with_reducible refine Lib.wpList_copy_run _ rfl _ _ _ _ rfl _ _ rfl rfl hcp ?_)
   clear hcp hmk hr6
   refine (XZ _ l4 _ H4.out.1 (by rw[H4.out.2.1];omega)).mono ?_
   rintro e w4 ⟨rfl,rfl⟩
   obtain ⟨N,hN⟩:=Je (YF l4 4)
   have hNlt:N<4294967296:=by rw[←hN];exact XD l4 4
   rw[hN]
   have HNN:=Lib.hid hN
   clear hN
   by_cases hbig:65536<N
   ·have hb1:(65536:Int)<(N:Int):=by omega
    go_wp2_with (go_at_call 162;refine (Y4 _ _).mono ?_;rintro e w9 ⟨rfl,rfl⟩)
    (try simp only[Exit.inBlock,Exit.then])
    refine bodyPost_ret (Zf rfl _ _ _) rfl ?_
    exact .inr ⟨HNO.out,⟨_,by decide,rfl⟩,(by first|exact HB.out.1|exact HB.out)⟩
   ·have hb1:¬ (65536:Int)<(N:Int):=by omega
    go_wp2_with (go_at_call 162;refine (Y4 _ _).mono ?_;rintro e w9 ⟨rfl,rfl⟩)
    (try simp only[Exit.inBlock,Exit.then])
    refine bodyPost_ret (Zf rfl _ _ _) rfl ?_
    exact .inr ⟨HNO.out,⟨_,by decide,rfl⟩,(by first|exact HB.out.1|exact HB.out)⟩
  ·by_cases hm1:b.take 1=[83]
   ·have HEQ:Hid ((⟨(b.take 1).toArray⟩:ByteArray)=⟨([83]:List UInt8).toArray⟩):=Jh (by rw[hm1])
    obtain ⟨a3,hs3,hS3⟩:=Yt (P:=Tryz.prog) (ea:=u8c) Tryz.underlying22 Zi a 1 cap 1 hcap (by omega)
    have hr3:∀ W,(Instr.slice 22 (.slice a 1 cap) none (some (.int .i64 1)) none).run Tryz.prog W=.ok (.slice a3 1 cap) W:=hs3
    have hm3:=X8.2.1
    have hq3:=hS3 w b hn HH.out
    clear hs3 hS3
    have hmin2:min (1:Int) 2=1:=by omega
    have hmin3:min (1:Int) 3=1:=by omega
    have hmin7:min (1:Int) 7=1:=by omega
    go_enter Tryz.func111,Tryz.ntmps111
    go_upto_region 3 with fail
    refine Z6 (fun W:World=>Z0 u8c 1 W (.slice a3 1 cap) (b.take 1)) (fun _=>false) (by kernel_rfl) ?_
    have hS0:(fun W:World=>Z0 u8c 1 W (.slice a3 1 cap) (b.take 1)) w.drew:=hq3.below (Below.refl _ _).drew
    have HW:Hid (Z0 u8c 1 w.drew (.slice a 1 cap) b∧Below w.heap.size w w.drew):=Lib.hid ⟨HH.out.below (Below.refl _ _).drew,(Below.refl _ _).drew⟩
    clear hq3
    have hsz:w.drew.heap.size=w.heap.size:=rfl
    generalize w.drew=W1 at hS0 HW hsz ⊢
    have HSZ:=Lib.hid hsz
    clear hsz
    refine J0 0 14 _ hS0 ?_
    try simp only[Ja]
    refine J0 1 15 _ hS0 ?_
    try simp only[Ja]
    refine J0 2 16 (.slice a3 1 cap) hS0 ?_
    try simp only[Ja]
    refine JR 3 17 (.string ⟨(b.take 1).toArray⟩) rfl rfl hS0 (fun W hW=>by have q3:=Zs hW;go_simp;try rfl) ?_
    try simp only[Ja]
    refine J0 4 18 _ hS0 ?_
    try simp only[Ja]
    refine J0 5 19 (.string ⟨([83]:List UInt8).toArray⟩) hS0 ?_
    try simp only[Ja]
    refine JR 6 20 (.bool false) rfl rfl hS0 (fun W hW=>by have q4:=HEQ.out;go_simp;try rfl) ?_
    try simp only[Ja]
    refine Z3 (by kernel_rfl) ?_ _
    clear hS0 hr3 hm3
    obtain ⟨i0,hi,hy0,hy1,hy2⟩:=info_parts YO
    have hmk:(Instr.makeSlice 22 (.int .i64 4) (.int .i64 4)).run Tryz.prog W1=.ok (.slice (some ⟨W1.heap.size,0,none⟩) 4 4) (W1.alloc (.cells (madeCells (Value.int .u8 0).cells (4*1)) 5)):=by
     have h:=run_make (P:=Tryz.prog) W1 22 5 i0 _ Tryz.underlying22 hi hy0 .i64 .i64 4 4 (by omega) (by omega) (by rw[hy2];omega) (by omega)
     rw[hy1] at h
     exact h
    clear hi hy0 hy1 hy2
    have b2:Below W1.heap.size W1 (W1.alloc (.cells (madeCells (Value.int .u8 0).cells (4*1)) 5)):=(Below.refl _ _).alloc (Nat.le_refl _) _
    have ho2:=Wd (base:=W1.heap.size) (n:=4) (cap:=4) (W:=W1) (Nat.le_refl _) (by omega) (by omega)
    obtain ⟨w2,hw2⟩:=Je (W1.alloc (.cells (madeCells (Value.int .u8 0).cells (4*1)) 5))
    rw[hw2] at hmk b2 ho2
    clear hw2
    obtain ⟨a6,c6,hs6,hS6⟩:=YV (P:=Tryz.prog) (ea:=u8c) Tryz.underlying22 Zi a 1 cap 1 1 hcap (by omega) (by omega)
    have hr6:∀ W,(Instr.slice 22 (.slice a 1 cap) (some (.int .i64 1)) (some (.int .i64 1)) none).run Tryz.prog W=.ok (.slice a6 0 c6) W:=hs6
    have hq6:Z0 u8c 1 w2 (.slice a6 0 c6) ((b.take 1).drop 1):=hS6 w2 b hn (HW.out.1.below b2)
    obtain ⟨w3,hcp,ho3,x3⟩:=XH (l:=List.replicate 4 (0:UInt8)) ho2 hq6 (by simp <;> omega)
    have b3:Below W1.heap.size W1 w3:=Ext.new b2 x3 (fun i hi _ e=>by omega) b2.size
    rw[show (List.replicate 4 (0:UInt8)).length=4 from rfl] at hcp ho3
    clear hs6 hS6 hq6 ho2 x3 b2
    obtain ⟨l4,hl4⟩:=Je ((b.take 1).drop 1++(List.replicate 4 (0:UInt8)).drop ((b.take 1).drop 1).length)
    obtain ⟨xl,hxl⟩:=Je (((b.take 1).drop 1).length)
    rw[hl4] at ho3
    have hl44:l4.length=4:=by rw[←hl4];simp only[List.length_append,List.length_drop,List.length_take,List.length_replicate];omega
    rw[hxl] at hcp
    have hg4:=ho3.slice Z7
    have HB:Hid (Below w.heap.size w w3∧Z0 u8c 1 w3 (.slice a 1 cap) b):=Lib.hid ⟨HW.out.2.trans (b3.mono (by rw[HSZ.out];exact Nat.le_refl _)),HW.out.1.below b3⟩
    have H4:=Jh (And.intro hg4 (And.intro hl44 hl4))
    clear hxl hl4 hl44 hg4 ho3 b3
    go_wp2_with (with_reducible refine Lib.wpList_copy_run _ rfl _ _ _ _ rfl _ _ rfl rfl hcp ?_)
    clear hcp hmk hr6
    refine (XZ _ l4 _ H4.out.1 (by rw[H4.out.2.1];omega)).mono ?_
    rintro e w4 ⟨rfl,rfl⟩
    obtain ⟨N,hN⟩:=Je (YF l4 4)
    have hNlt:N<4294967296:=by rw[←hN];exact XD l4 4
    rw[hN]
    have HNN:=Lib.hid hN
    clear hN
    by_cases hbig:65536<N
    ·have hb1:(65536:Int)<(N:Int):=by omega
     go_wp2_with (go_at_call 162;refine (Y4 _ _).mono ?_;rintro e w9 ⟨rfl,rfl⟩)
     (try simp only[Exit.inBlock,Exit.then])
     refine bodyPost_ret (Zf rfl _ _ _) rfl ?_
     exact .inr ⟨HNO.out,⟨_,by decide,rfl⟩,(by first|exact HB.out.1|exact HB.out)⟩
    ·have hb1:¬ (65536:Int)<(N:Int):=by omega
     go_wp2_with (go_at_call 162;refine (Y4 _ _).mono ?_;rintro e w9 ⟨rfl,rfl⟩)
     (try simp only[Exit.inBlock,Exit.then])
     refine bodyPost_ret (Zf rfl _ _ _) rfl ?_
     exact .inr ⟨HNO.out,⟨_,by decide,rfl⟩,(by first|exact HB.out.1|exact HB.out)⟩
   ·have HNE:=Lib.hid hm1
    obtain ⟨a3,hs3,hS3⟩:=Yt (P:=Tryz.prog) (ea:=u8c) Tryz.underlying22 Zi a 1 cap 1 hcap (by omega)
    have hr3:∀ W,(Instr.slice 22 (.slice a 1 cap) none (some (.int .i64 1)) none).run Tryz.prog W=.ok (.slice a3 1 cap) W:=hs3
    have hm3:=X8.2.1
    have hq3:=hS3 w b hn HH.out
    clear hs3 hS3
    have hmin2:min (1:Int) 2=1:=by omega
    have hmin3:min (1:Int) 3=1:=by omega
    have hmin7:min (1:Int) 7=1:=by omega
    go_enter Tryz.func111,Tryz.ntmps111
    go_upto_region 3 with fail
    refine Z6 (fun W:World=>Z0 u8c 1 W (.slice a3 1 cap) (b.take 1)) (fun _=>false) (by kernel_rfl) ?_
    have hS0:(fun W:World=>Z0 u8c 1 W (.slice a3 1 cap) (b.take 1)) w.drew:=hq3.below (Below.refl _ _).drew
    have HW:Hid (Z0 u8c 1 w.drew (.slice a 1 cap) b∧Below w.heap.size w w.drew):=Lib.hid ⟨HH.out.below (Below.refl _ _).drew,(Below.refl _ _).drew⟩
    clear hq3
    have hsz:w.drew.heap.size=w.heap.size:=rfl
    generalize w.drew=W1 at hS0 HW hsz ⊢
    have HSZ:=Lib.hid hsz
    clear hsz
    refine J0 0 14 _ hS0 ?_
    try simp only[Ja]
    refine J0 1 15 _ hS0 ?_
    try simp only[Ja]
    refine J0 2 16 (.slice a3 1 cap) hS0 ?_
    try simp only[Ja]
    refine JR 3 17 (.string ⟨(b.take 1).toArray⟩) rfl rfl hS0 (fun W hW=>by have q3:=Zs hW;go_simp;try rfl) ?_
    try simp only[Ja]
    refine J0 4 18 _ hS0 ?_
    try simp only[Ja]
    refine J0 5 19 (.string ⟨([83]:List UInt8).toArray⟩) hS0 ?_
    try simp only[Ja]
    refine JR 6 20 (.bool true) rfl rfl hS0 (fun W hW=>by have q4:=HNE.out;go_simp;try rfl) ?_
    try simp only[Ja]
    refine Z3 (by kernel_rfl) ?_ _
    clear hS0 hr3 hm3
    have HB:Hid (Below w.heap.size w W1):=Lib.hid HW.out.2
    go_wp2_with (go_at_call 162;refine (Y4 _ _).mono ?_;rintro e w9 ⟨rfl,rfl⟩)
    (try simp only[Exit.inBlock,Exit.then])
    refine bodyPost_ret (Zf rfl _ _ _) rfl ?_
    exact .inr ⟨HNO.out,⟨_,by decide,rfl⟩,(by first|exact HB.out.1|exact HB.out)⟩
end Go.Proofs.YtgmdimbiipemhaaGreatDoor
