/- OplogKeeps, part 3 of what the proof leans on (made short by a program). -/
import Derived.Test.YtgmdimbiipemhaaGreatDoorKeZ2
import Derived.Laws.CopyOwn
import Derived.OneCell
set_option linter.unusedSimpArgs false
set_option linter.unusedVariables false
set_option linter.unusedSectionVars false
set_option maxRecDepth 20000
set_option maxHeartbeats 30000000
namespace Go.Proofs.YtgmdimbiipemhaaGreatDoor
open Go.RowKit Go.Deep Go.Shelf
def Wc (s:ByteArray):Bool:=decide (1≤s.size∧s.size≤8) && s.data.toList.all fun c=>decide (97≤c.toNat∧c.toNat≤122)
def XV (s:ByteArray):Bool:=decide (s.size≤16) && s.data.toList.all fun c=>decide (32≤c.toNat∧c.toNat≤126)
def Wx (s:ByteArray):Bool:=decide (1≤s.size∧s.size≤64) && (s.data.toList.all fun c=>decide (48≤c.toNat∧c.toNat≤57∨97≤c.toNat∧c.toNat≤122)) && decide (s.data.toList.getLast?≠some 48)
theorem Sv {α:Type} (p:α→Bool):∀ l:List α,l.dropWhile p=[]↔∀ x∈l,p x=true
 | []=>by simp
 | x :: l=>by
  rw[List.dropWhile_cons]
  split
  ·rename_i h
   rw[Sv p l]
   simp[h]
  ·rename_i h
   simp[h]
theorem UI (l cs:List UInt8):Lib.trimS l cs=[]↔∀ c∈l,c∈cs:=by
 unfold Lib.trimS Lib.trimRightS Lib.trimLeftS
 constructor
 ·intro h c hc
  rw[Sv] at h
  by_cases hx:c∈(l.reverse.dropWhile (cs.contains ·)).reverse
  ·simpa using h c hx
  ·have h2:c∈l.reverse:=by simpa using hc
   rw[←List.takeWhile_append_dropWhile (p:=(cs.contains ·)) (l:=l.reverse)] at h2
   rcases List.mem_append.1 h2 with h2|h2
   ·have:=List.all_takeWhile (p:=(cs.contains ·)) (l:=l.reverse)
    simpa using List.all_eq_true.1 this c h2
   ·exact absurd (by simpa using h2) hx
 ·intro h
  have:l.reverse.dropWhile (cs.contains ·)=[]:=by
   rw[Sv]
   intro c hc
   simpa using h c (by simpa using hc)
  rw[this]
  rfl
def WX:List UInt8:=[97,98,99,100,101,102,103,104,105,106,107,108,109,110,111,112,113,114,115,116,117,118,119,120,121,122]
def VS:List UInt8:=[48,49,50,51,52,53,54,55,56,57,97,98,99,100,101,102,103,104,105,106,107,108,109,110,111,112,113,114,115,116,117,118,119,120,121,122]
theorem R0 (c:UInt8):c∈WX↔97≤c.toNat∧c.toNat≤122:=by
 have key:∀ n:Fin 256,(UInt8.ofNat n.val)∈WX↔97≤n.val∧n.val≤122:=by decide +kernel
 have:=key ⟨c.toNat,c.toNat_lt⟩
 simpa using this
theorem Z0e (c:UInt8):c∈VS↔(48≤c.toNat∧c.toNat≤57∨97≤c.toNat∧c.toNat≤122):=by
 have key:∀ n:Fin 256,(UInt8.ofNat n.val)∈VS↔(48≤n.val∧n.val≤57∨97≤n.val∧n.val≤122):=by decide +kernel
 have:=key ⟨c.toNat,c.toNat_lt⟩
 simpa using this
theorem TY (s:ByteArray):s.data.toList.length=s.size:=by simp
theorem Z2l (l:List UInt8):(⟨l.toArray⟩:ByteArray).toList.isEmpty=decide (l=[]):=by
 rw[ByteArray.toList_eq]
 cases l with
 | nil=>rfl
 | cons x l=>rw[decide_eq_false (by simp)];rfl
theorem Z3B {s:ByteArray} (h1:1≤s.size) (h2:s.size≤8):Wc s=decide (Lib.trimS s.data.toList WX=[]):=by
 unfold Wc
 rw[decide_eq_true ⟨h1,h2⟩,Bool.true_and]
 by_cases ht:Lib.trimS s.data.toList WX=[]
 ·rw[decide_eq_true ht]
  rw[UI] at ht
  exact List.all_eq_true.2 fun c hc=>decide_eq_true ((R0 c).1 (ht c hc))
 ·rw[decide_eq_false ht]
  refine Bool.eq_false_iff.2 fun h=>ht ?_
  rw[UI]
  exact fun c hc=>(R0 c).2 (of_decide_eq_true (List.all_eq_true.1 h c hc))
theorem Z4H {s:ByteArray} (h1:1≤s.size) (h2:s.size≤64):Wx s=(decide (Lib.trimS s.data.toList VS=[]) && !(Lib.hasSuffix s.data.toList [48])):=by
 have e2:(!(Lib.hasSuffix s.data.toList [48]))=decide (s.data.toList.getLast?≠some 48):=by
  unfold Lib.hasSuffix
  by_cases h:s.data.toList.getLast?=some 48
  ·rw[decide_eq_false (by simp[h])]
   have:[48] <:+ s.data.toList:=by
    obtain ⟨ys,hys⟩:=List.getLast?_eq_some_iff.1 h
    exact ⟨ys,hys.symm⟩
   simp[List.isSuffixOf_iff_suffix.2 this]
  ·rw[decide_eq_true h]
   have:¬ [48] <:+ s.data.toList:=fun ⟨ys,hys⟩=>h (by rw[←hys];simp)
   have h3:[48].isSuffixOf s.data.toList=false:=Bool.eq_false_iff.2 fun e=>this (List.isSuffixOf_iff_suffix.1 e)
   rw[h3];rfl
 unfold Wx
 rw[decide_eq_true ⟨h1,h2⟩,Bool.true_and,e2]
 congr 1
 by_cases ht:Lib.trimS s.data.toList VS=[]
 ·rw[decide_eq_true ht]
  rw[UI] at ht
  exact List.all_eq_true.2 fun c hc=>decide_eq_true ((Z0e c).1 (ht c hc))
 ·rw[decide_eq_false ht]
  refine Bool.eq_false_iff.2 fun h=>ht ?_
  rw[UI]
  exact fun c hc=>(Z0e c).2 (of_decide_eq_true (List.all_eq_true.1 h c hc))
theorem Z1k (s:ByteArray) (w:World) (hs:s.size≤9223372036854775807):Calls Tryz.prog 143 #[.string s] w fun e w'=>e=.returned (.bool (Wc s))∧Below w.heap.size w w':=by
 by_cases h1:1≤s.size
 ·have h1':(1:Int)≤(s.size:Int):=by omega
  by_cases h2:s.size≤8
  ·have h2':(s.size:Int)≤8:=by omega
   have hcon:=Any.strings_Trim_laid Tryz.trimF (by kernel_rfl) s ⟨#[97,98,99,100,101,102,103,104,105,106,107,108,109,110,111,112,113,114,115,116,117,118,119,120,121,122]⟩ w hs (by decide) (ascii_of_all (by decide))
   change Calls Tryz.prog 176 _ _ (fun e w'=>e=.returned (.string ⟨(Lib.trimS s.data.toList WX).toArray⟩)∧Below w.heap.size w w') at hcon
   have HC:=Lib.hid hcon
   have hb:=Z3B h1 h2
   have he:=Z2l (Lib.trimS s.data.toList WX)
   rw[←hb] at he
   have HE:=Lib.hid he
   generalize (⟨(Lib.trimS s.data.toList WX).toArray⟩:ByteArray)=r at HC HE
   clear hcon hb he h1 h2
   go_enter Tryz.func143,Tryz.ntmps143
   go_wp2_with fail
   refine HC.out.mono ?_
   rintro e w5 ⟨rfl,b5⟩
   have he:=HE.out
   go_wp2_with fail
   go_ret
   exact ⟨rfl,b5⟩
  ·have h2':¬ (s.size:Int)≤8:=by omega
   have HN:Hid (Wc s=false):=Jh (by unfold Wc;rw[decide_eq_false (fun h=>h2 h.2)];rfl)
   clear h1 h2
   go_enter Tryz.func143,Tryz.ntmps143
   go_wp2_with fail
   go_ret
   exact ⟨by rw[HN.out];rfl,Below.refl _ _⟩
 ·have h1':¬ (1:Int)≤(s.size:Int):=by omega
  have HN:Hid (Wc s=false):=Jh (by unfold Wc;rw[decide_eq_false (fun h=>h1 h.1)];rfl)
  clear h1
  go_enter Tryz.func143,Tryz.ntmps143
  go_wp2_with fail
  go_ret
  exact ⟨by rw[HN.out];rfl,Below.refl _ _⟩
theorem U4 (s:ByteArray) (w:World) (hs:s.size≤9223372036854775807):Calls Tryz.prog 142 #[.string s] w fun e w'=>e=.returned (.bool (Wx s))∧Below w.heap.size w w':=by
 by_cases h1:1≤s.size
 ·have h1':(1:Int)≤(s.size:Int):=by omega
  by_cases h2:s.size≤64
  ·have h2':(s.size:Int)≤64:=by omega
   have hcon:=Any.strings_Trim_laid Tryz.trimF (by kernel_rfl) s ⟨#[48,49,50,51,52,53,54,55,56,57,97,98,99,100,101,102,103,104,105,106,107,108,109,110,111,112,113,114,115,116,117,118,119,120,121,122]⟩ w hs (by decide) (ascii_of_all (by decide))
   change Calls Tryz.prog 176 _ _ (fun e w'=>e=.returned (.string ⟨(Lib.trimS s.data.toList VS).toArray⟩)∧Below w.heap.size w w') at hcon
   have HC:=Lib.hid hcon
   have hsuf:=fun w'=>Any.strings_HasSuffix Tryz.sufF s ⟨#[48]⟩ w' hs
   change ∀ w',Calls Tryz.prog 177 _ _ (fun e w''=>e=.returned (.bool (Lib.hasSuffix s.data.toList [48]))∧w''=w') at hsuf
   have HS:=Lib.hid hsuf
   have HB:=Jh (Z4H h1 h2)
   have he:=Z2l (Lib.trimS s.data.toList VS)
   obtain ⟨tb,htb⟩:∃ tb,tb=decide (Lib.trimS s.data.toList VS=[]):=⟨_,rfl⟩
   rw[←htb] at HB he
   have HE:=Lib.hid he
   generalize (⟨(Lib.trimS s.data.toList VS).toArray⟩:ByteArray)=r at HC HE
   generalize Lib.hasSuffix s.data.toList [48]=sb at HB HS
   clear hcon hsuf he h1 h2 htb
   go_enter Tryz.func142,Tryz.ntmps142
   go_wp2_with fail
   refine HC.out.mono ?_
   rintro e w5 ⟨rfl,b5⟩
   have he:=HE.out
   cases tb with
   | false =>
    go_wp2_with fail
    go_ret
    exact ⟨by rw[HB.out];rfl,b5⟩
   | true =>
    go_wp2_with fail
    refine (HS.out _).mono ?_
    rintro e w6 ⟨rfl,e6⟩
    rw[e6]
    clear e6 w6
    go_wp2_with fail
    go_ret
    exact ⟨by rw[HB.out];simp,b5⟩
  ·have h2':¬ (s.size:Int)≤64:=by omega
   have HN:Hid (Wx s=false):=Jh (by unfold Wx;rw[decide_eq_false (fun h=>h2 h.2)];rfl)
   clear h1 h2
   go_enter Tryz.func142,Tryz.ntmps142
   go_wp2_with fail
   go_ret
   exact ⟨by rw[HN.out];rfl,Below.refl _ _⟩
 ·have h1':¬ (1:Int)≤(s.size:Int):=by omega
  have HN:Hid (Wx s=false):=Jh (by unfold Wx;rw[decide_eq_false (fun h=>h1 h.1)];rfl)
  clear h1
  go_enter Tryz.func142,Tryz.ntmps142
  go_wp2_with fail
  go_ret
  exact ⟨by rw[HN.out];rfl,Below.refl _ _⟩
theorem Z6Y:Tryz.prog.underlying 5=some (.int .u8):=by kernel_rfl
theorem Z2O (s:ByteArray) (w:World):∃ W1 cap,(convert 9 22 (.string s)).run Tryz.prog w=.ok (.slice (some ⟨w.heap.size,0,none⟩) s.size cap) W1∧Below w.heap.size w W1∧∀ (j:Nat) c,s.data.toList[j]?=some c→W1.cell? ⟨w.heap.size,j,none⟩=some (.int .u8 c.toNat):=by
 refine ⟨_,_,Lib.run_convert_string_bytes w 9 22 5 s Tryz.underlying9 Tryz.underlying22 Z6Y,⟨rfl,rfl,rfl,by rw[Lib.bytesWorld_size];omega,fun k hk=>Lib.bytesWorld_at_old w _ s k hk⟩,fun j c hc=>?_⟩
 have hj:=(List.getElem?_eq_some_iff.1 hc).1
 rw[TY] at hj
 rw[Lib.bytesWorld_cell w _ s j hj,List.getD_eq_getElem?_getD,hc]
 rfl
theorem Z2F (s:ByteArray) (k:Nat) (c:UInt8) (hc:s.data.toList[k]?=some c):((s.data.toList.take (k+1)).all fun c=>decide (32≤c.toNat∧c.toNat≤126))=(((s.data.toList.take k).all fun c=>decide (32≤c.toNat∧c.toNat≤126)) && decide (32≤c.toNat∧c.toNat≤126)):=by
 rw[List.take_add_one,hc,Option.toList_some,List.all_append]
 simp
theorem RP {s:ByteArray} {k:Nat} {c:UInt8} (hc:s.data.toList[k]?=some c) (h:¬ (32≤c.toNat∧c.toNat≤126)):XV s=false:=by
 unfold XV
 have:(s.data.toList.all fun c=>decide (32≤c.toNat∧c.toNat≤126))=false:=Bool.eq_false_iff.2 fun e=>h (of_decide_eq_true (List.all_eq_true.1 e c (List.mem_of_getElem? hc)))
 rw[this,Bool.and_false]
theorem Z0E (s:ByteArray) (w:World) (hs:s.size≤9223372036854775807):Calls Tryz.prog 144 #[.string s] w fun e w'=>e=.returned (.bool (XV s))∧Below w.heap.size w w':=by
 obtain ⟨W1,cap,hcv,hb,hc⟩:=Z2O s w
 have HB:=Lib.hid hb
 have HC:=Lib.hid hc
 clear hb hc
 go_enter Tryz.func144,Tryz.ntmps144
 go_wp2_with fail
 clear hcv
 go_loopg [8] s.size (fun g kv wr=>∃ k:Nat,g=s.size - k∧kv=.int .i64 k∧k≤s.size∧wr=W1∧Hid (((s.data.toList.take k).all fun c=>decide (32≤c.toNat∧c.toNat≤126))=true))
 case atStart=>exact ⟨0,rfl,rfl,Nat.zero_le _,rfl,Jh (by rw[List.take_zero];rfl)⟩
 case round =>
  obtain ⟨k,hg,rfl,hk,rfl,HA⟩:=hrel
  have HG:=Lib.hid hg
  clear hg
  by_cases hlt:k<s.size
  ·have hk1:(k:Int)<(s.size:Int):=by omega
   obtain ⟨c,hc⟩:∃ c,s.data.toList[k]?=some c:=⟨_,List.getElem?_eq_getElem (by rw[TY];exact hlt)⟩
   have c0:=HC.out k c hc
   have hcl:=c.toNat_lt
   by_cases h1:c.toNat<32
   ·have h1':(c.toNat:Int)<32:=by omega
    have HN:=Jh (RP hc (by omega))
    clear hc h1
    go_wp2_with fail
    go_ret
    exact ⟨by rw[HN.out];rfl,HB.out⟩
   ·have h1':¬ (c.toNat:Int)<32:=by omega
    by_cases h2:126<c.toNat
    ·have h2':(126:Int)<(c.toNat:Int):=by omega
     have HN:=Jh (RP hc (by omega))
     clear hc h1 h2
     go_wp2_with fail
     go_ret
     exact ⟨by rw[HN.out];rfl,HB.out⟩
    ·have h2':¬ (126:Int)<(c.toNat:Int):=by omega
     have HN:Hid (((s.data.toList.take (k+1)).all fun c=>decide (32≤c.toNat∧c.toNat≤126))=true):=Jh (by rw[Z2F s k c hc,HA.out,Bool.true_and];exact decide_eq_true (by omega))
     clear hc h1 h2 HA
     go_wp2_with fail
     go_roundg (s.size - (k+1))
     case measure=>rw[HG.out];omega
     case rel=>exact ⟨k+1,rfl,by simp,by omega,rfl,HN⟩
  ·obtain rfl:k=s.size:=by omega
   have hk1:¬ (s.size:Int)<(s.size:Int):=by omega
   have HV:Hid (XV s=decide (s.size≤16)):=Jh (by unfold XV;have h:=HA.out;rw[List.take_of_length_le (by rw[TY];exact Nat.le_refl _)] at h;rw[h,Bool.and_true])
   clear hlt HA
   by_cases h16:s.size≤16
   ·have h16':(s.size:Int)≤16:=by omega
    go_wp2_with fail
    go_ret
    exact ⟨by rw[HV.out,decide_eq_true h16];try rfl,HB.out⟩
   ·have h16':¬ (s.size:Int)≤16:=by omega
    go_wp2_with fail
    go_ret
    exact ⟨by rw[HV.out,decide_eq_false h16];try rfl,HB.out⟩
end Go.Proofs.YtgmdimbiipemhaaGreatDoor
namespace Go.Proofs.YtgmdimbiipemhaaGreatDoor
def ZE:ByteArray:=⟨#[]⟩
def OpD.bare (o:OpD):OpD:=⟨o.id,o.d0,o.d1,o.d2,o.d3,o.d4,o.d5,o.d6,o.d7,o.kind,⟨0,0⟩,0,0,⟨0,0⟩,ZE,ZE,ZE,⟨0,0⟩,false,⟨0,0⟩,false⟩
def OpD.keepR (o:OpD):OpD:={ o.bare with ref:=o.ref }
def OpD.keepI (o:OpD):OpD:={ o.bare with ref:=o.ref,side:=o.side,ch:=o.ch }
def OpD.keepM (o:OpD):OpD:={ o.bare with ref:=o.ref,under:=o.under,key:=o.key }
def OpD.keepS (o:OpD):OpD:={ o.bare with ref:=o.ref,name:=o.name,value:=o.value }
def OpD.keepK (o:OpD):OpD:={ o.bare with name:=o.name,value:=o.value,fr:=o.fr,fa:=o.fa,tr:=o.tr,ta:=o.ta }
def OpD.okI (o:OpD):Bool:=(decide (o.side=2) && decide (o.ref=⟨0,0⟩) || o.may o.ref && (decide (o.side=1) || decide (o.side=2))) && (decide (o.ch=0) || decide (32≤o.ch) && decide (o.ch≤126))
def OpD.okM (o:OpD):Bool:=o.may o.ref && (decide (o.under=⟨0,0⟩) || o.may o.under) && !decide (o.under=o.ref) && Wx o.key
def OpD.okS (o:OpD):Bool:=o.may o.ref && Wc o.name && XV o.value
def OpD.okK (o:OpD):Bool:=o.may o.fr && o.may o.tr && Wc o.name && XV o.value
def OpD.kindOk (o:OpD):Bool :=
 if o.kind=1 then o.okI && decide (o.keepI=o) else
 if o.kind=2 then o.may o.ref && decide (o.keepR=o) else
 if o.kind=3 then o.okM && decide (o.keepM=o) else
 if o.kind=4 then o.okS && decide (o.keepS=o) else
 if o.kind=5 then o.okK && decide (o.keepK=o) else false
def Um (ds:List Int):Int:=Lib.minOf ds
def OpD.right (o:OpD):Bool:=YA o.id && (!decide (Um o.deps<0) && (!decide (o.id.n≤WP o.deps) && o.kindOk))
theorem OpD.right_no1 {o:OpD} (h:YA o.id=false):o.right=false:=by unfold OpD.right;rw[h];rfl
theorem OpD.right_no2 {o:OpD} (h:YA o.id=true) (h2:Um o.deps<0):o.right=false:=by unfold OpD.right;rw[h,decide_eq_true h2];rfl
theorem OpD.right_no3 {o:OpD} (h:YA o.id=true) (h2:¬ Um o.deps<0) (h3:o.id.n≤WP o.deps):o.right=false:=by unfold OpD.right;rw[h,decide_eq_false h2,decide_eq_true h3];rfl
theorem OpD.right_yes {o:OpD} (h:YA o.id=true) (h2:¬ Um o.deps<0) (h3:¬ o.id.n≤WP o.deps):o.right=o.kindOk:=by unfold OpD.right;rw[h,decide_eq_false h2,decide_eq_false h3];rfl
end Go.Proofs.YtgmdimbiipemhaaGreatDoor
namespace Go.Proofs.YtgmdimbiipemhaaGreatDoor
open Go.RowKit
theorem Ug (n:Int):wrap64 n=Yl n:=by unfold wrap64 Yl;rfl
theorem Xk (n:Int):IntKind.u64.wrap n=n % 18446744073709551616:=by
 unfold IntKind.wrap
 simp[IntKind.bits,IntKind.signed]
theorem Z3R (n:Nat) (h:n<256):bits .or .u8 (n:Int) 128=((n % 128+128:Nat):Int):=by
 have key:∀ m:Fin 256,bits .or .u8 ((m.val:Nat):Int) 128=((m.val % 128+128:Nat):Int):=by decide +kernel
 exact key ⟨n,h⟩
theorem UX (n:Nat) (h:n<256):bits .and .u8 (n:Int) 127=((n % 128:Nat):Int):=by
 have key:∀ m:Fin 256,bits .and .u8 ((m.val:Nat):Int) 127=((m.val % 128:Nat):Int):=by decide +kernel
 exact key ⟨n,h⟩
theorem Yp (k n:Nat):BitVec.ofInt k (n:Int)=BitVec.ofNat k n:=by
 apply BitVec.eq_of_toInt_eq
 simp[BitVec.toInt_ofInt,BitVec.toInt_ofNat]
theorem Tq (op:BinOp) (a b c:Nat) (ha:a<18446744073709551616) (hb:b<18446744073709551616) (hc:c<18446744073709551616)
  (h:(match op with|.and=>a &&& b|.or=>a ||| b|.xor=>a ^^^ b|_=>c)=c) (ho:op=.and∨op=.or∨op=.xor):bits op .u64 (a:Int) (b:Int)=(c:Int):=by
 unfold bits
 dsimp only
 rw[Xk]
 have e64:IntKind.u64.bits=64:=rfl
 rcases ho with rfl|rfl|rfl
 ·simp only at h ⊢
  rw[Yp,Yp,e64,BitVec.toNat_and,BitVec.toNat_ofNat,BitVec.toNat_ofNat,Nat.mod_eq_of_lt (by omega),Nat.mod_eq_of_lt (by omega),h]
  omega
 ·simp only at h ⊢
  rw[Yp,Yp,e64,BitVec.toNat_or,BitVec.toNat_ofNat,BitVec.toNat_ofNat,Nat.mod_eq_of_lt (by omega),Nat.mod_eq_of_lt (by omega),h]
  omega
 ·simp only at h ⊢
  rw[Yp,Yp,e64,BitVec.toNat_xor,BitVec.toNat_ofNat,BitVec.toNat_ofNat,Nat.mod_eq_of_lt (by omega),Nat.mod_eq_of_lt (by omega),h]
  omega
theorem Z1f (n:Nat) (h:n<18446744073709551616):bits .and .u64 (n:Int) 1=((n % 2:Nat):Int) :=
 Tq .and n 1 (n % 2) h (by omega) (by omega) (Nat.and_one_is_mod n) (.inl rfl)
theorem Z11 (a x i:Nat) (ha:a<2 ^ i) (h:a+x*2 ^ i<18446744073709551616):bits .or .u64 (a:Int) ((x*2 ^ i:Nat):Int)=((a+x*2 ^ i:Nat):Int):=by
 refine Tq .or a (x*2 ^ i) _ (by omega) (by omega) h ?_ (.inr (.inl rfl))
 show a ||| x*2 ^ i=_
 rw[Nat.or_comm,Nat.mul_comm x,←Nat.two_pow_add_eq_or_of_lt ha,Nat.add_comm]
theorem Z2h (a:Nat) (h:a<18446744073709551616):a ^^^ 18446744073709551615=18446744073709551615 - a:=by
 have:=congrArg BitVec.toNat (BitVec.xor_allOnes (x:=BitVec.ofNat 64 a))
 rw[BitVec.toNat_xor,BitVec.toNat_not,BitVec.toNat_ofNat,BitVec.toNat_allOnes,Nat.mod_eq_of_lt (by omega)] at this
 simpa using this
theorem Z6c {n:Int} (h1:-9223372036854775808≤n) (h2:n≤9223372036854775807):bits .xor .u64 (IntKind.u64.wrap (IntKind.u64.wrap n*2)) (IntKind.u64.wrap (n / 9223372036854775808))=(YG n:Int):=by
 rw[Xk,Xk,Xk]
 by_cases h:0≤n
 ·have e1:n % 18446744073709551616*2 % 18446744073709551616=((2*n).toNat:Int):=by omega
  have e2:n / 9223372036854775808 % 18446744073709551616=((0:Nat):Int):=by omega
  rw[e1,e2]
  unfold YG
  rw[if_pos h]
  exact Tq .xor _ 0 _ (by omega) (by omega) (by omega) (Nat.xor_zero _) (.inr (.inr rfl))
 ·have e1:n % 18446744073709551616*2 % 18446744073709551616=((18446744073709551616+2*n).toNat:Int):=by omega
  have e2:n / 9223372036854775808 % 18446744073709551616=((18446744073709551615:Nat):Int):=by omega
  rw[e1,e2]
  unfold YG
  rw[if_neg h]
  refine Tq .xor _ 18446744073709551615 _ (by omega) (by omega) (by omega) ?_ (.inr (.inr rfl))
  show _ ^^^ _=_
  rw[Z2h _ (by omega)]
  omega
theorem Rn (n:Int):IntKind.i64.wrap n=Yl n:=by
 rw[←Ug];exact IntWalk.i64_left n
theorem Z64 {n:Nat} (h:n<18446744073709551616):bits .xor .i64 ((n:Int) / 2) (wrap64 (-wrap64 (bits .and .u64 (n:Int) 1)))=Xf n:=by
 rw[Z1f n h,Ug,Ug]
 unfold bits
 dsimp only
 rw[Rn]
 have e64:IntKind.i64.bits=64:=rfl
 have e0:((n:Int) / 2)=((n / 2:Nat):Int):=by omega
 by_cases hp:n % 2=0
 ·have e1:Yl (-Yl ((n % 2:Nat):Int))=((0:Nat):Int):=by rw[hp];decide
  rw[e1,e0,Yp,Yp,e64,BitVec.toNat_xor,BitVec.toNat_ofNat,BitVec.toNat_ofNat,Nat.mod_eq_of_lt (show n / 2<2 ^ 64 by omega),Nat.zero_mod,Nat.xor_zero]
  unfold Xf Yl
  rw[if_pos hp]
  omega
 ·have e1:Yl (-Yl ((n % 2:Nat):Int))=-1:=by rw[show n % 2=1 by omega];decide
  have e2:(BitVec.ofInt 64 (-1)).toNat=18446744073709551615:=by decide
  rw[e1,e0,Yp,e64,BitVec.toNat_xor,BitVec.toNat_ofNat,e2,Nat.mod_eq_of_lt (show n / 2<2 ^ 64 by omega),Z2h _ (by omega)]
  unfold Xf Yl
  rw[if_neg hp]
  omega
theorem Z6H (n:Int) (w:World) (h1:-9223372036854775808≤n) (h2:n≤9223372036854775807):Calls Tryz.prog 148 #[.int .i64 n] w fun e w'=>e=.returned (.int .u64 (YG n))∧w=w':=by
 have hz:=Z6c h1 h2
 have HZ:=Lib.hid hz
 clear hz
 go_enter Tryz.func148,Tryz.ntmps148
 go_wp2
 go_ret
 exact ⟨congrArg (fun x=>Ending.returned (.int .u64 x)) HZ.out,rfl⟩
theorem QG (n:Nat) (w:World) (h:n<18446744073709551616):Calls Tryz.prog 180 #[.int .u64 n] w fun e w'=>e=.returned (.int .i64 (Xf n))∧w=w':=by
 have HZ:=Lib.hid (Z64 h)
 go_enter Tryz.func180,Tryz.ntmps180
 go_wp2
 go_ret
 exact ⟨congrArg (fun x=>Ending.returned (.int .i64 x)) HZ.out,rfl⟩
end Go.Proofs.YtgmdimbiipemhaaGreatDoor
namespace Go.Proofs.YtgmdimbiipemhaaGreatDoor
open Go.RowKit Go.Deep Go.Shelf
theorem ZD (w:World) (o:Obj):(w.alloc o).heap[w.heap.size]?=some o:=by
 show (w.heap.push o)[w.heap.size]?=_
 simp
theorem Z0a {P:Program} {o:Oper} {a:Act} {w w':World} {s x:Operand} {t tn:TypeId} {v vx v':Value} (hop:o.op=.call { callee:=.builtin .copy,args:=#[s,x],argTypes:=#[t,tn] }) (hs:a.eval s=v) (hx:a.eval x=vx)
  (hr:(Builtin.copy_ #[t,tn] o.type #[v,vx]).run P w=.ok v' w'):(execOp a.eval o).run P w=.ok (.value v') w':=by
 unfold execOp
 simp only[hop,resolve,invoke,builtin,Sem.run_bind,Sem.run_pure,Result.andThen_ok,List.map_toArray,List.map_cons,List.map_nil,hs,hx,hr]
def ZH (u z:Value) (k j:Nat):List Value:=List.replicate j u++List.replicate (k - j) z
theorem Z2b {u z:Value} {k j:Nat} (h:j≤k):(ZH u z k j).length=k:=by simp[ZH];omega
theorem UG {u z:Value} {k j m:Nat} (hj:j+m≤k):(ZH u z k j).take j++List.replicate m u++(ZH u z k j).drop (j+m)=ZH u z k (j+m):=by
 unfold ZH
 rw[List.take_left' (by simp),List.drop_append,List.drop_eq_nil_of_le (by simp),List.nil_append,List.length_replicate,List.drop_replicate,show k - j - (j+m - j)=k - (j+m) by omega,List.replicate_append_replicate]
theorem Z5Z {u z:Value} {k:Nat}:ZH u z k k=List.replicate k u:=by simp[ZH]
theorem Z0L {u z:Value} {k j i:Nat} {W:World} {g:Nat} {E:TypeId} (hg:W.heap[g]?=some (.cells (ZH u z k j).toArray E (0,0))) (hi:i<j):W.cell? ⟨g,i,none⟩=some u:=by
 unfold World.cell?
 rw[hg]
 simp[ZH,List.getElem?_append_left (show i<(List.replicate j u).length by simpa using hi),hi]
theorem TV (z:Value) (h:z.cells=#[z]) (k:Nat):madeCells z.cells (k*1)=(ZH z z k 0).toArray:=by
 unfold ZH
 rw[h]
 apply Array.ext_getElem?
 intro i
 simp[madeCells]
 try grind
theorem Own.of_row {α:Type} {ea:α→List Value} {e:TypeId} {base g:Nat} {w:World} {l:List α} {cs:List Value} (h1:∀ x,∃ u,ea x=[u]) (hg:w.heap[g]?=some (.cells cs.toArray e (0,0))) (hb:base≤g) (hcs:cs=l.flatMap ea) (hl:l.length≤maxLen) :
  Own ea 1 e base w (.slice (some ⟨g,0,none⟩) l.length l.length) l:=by
 have hlen:∀ l:List α,(l.flatMap ea).length=l.length:=by
  intro l
  induction l with
  | nil=>rfl
  | cons x l ih=>obtain ⟨u,hu⟩:=h1 x;rw[List.flatMap_cons,List.length_append,ih,hu];simp;omega
 subst hcs
 refine ⟨by rw[hlen,Nat.mul_one],.inr ⟨g,l.length,_,rfl,hb,hg,Nat.le_refl _,hl,by simp[hlen],?_⟩⟩
 rw[List.take_of_length_le (by simp[hlen])]
theorem SN {α:Type} {ea:α→List Value} {e:TypeId} {g k:Nat} {w:World} {x:α} {u z:Value} (h1:∀ x,∃ u,ea x=[u]) (hx:ea x=[u]) (hg:w.heap[g]?=some (.cells (ZH u z k k).toArray e (0,0))) (hk:k≤65536) :
  Own ea 1 e g w (.slice (some ⟨g,0,none⟩) k k) (List.replicate k x):=by
 have h:=Own.of_row (ea:=ea) (l:=List.replicate k x) (cs:=ZH u z k k) (base:=g) h1 hg (Nat.le_refl _) (by
  rw[Z5Z]
  clear hg hk
  induction k with
  | zero=>rfl
  | succ k ih=>rw[List.replicate_succ,List.replicate_succ,List.flatMap_cons,hx,←ih];rfl) (by rw[List.length_replicate];unfold maxLen;omega)
 rw[List.length_replicate] at h
 exact h
theorem Z3w (x:Int) (b c k:Nat) (w:World) (hb:w.cell? ⟨b,0,none⟩=some (.int .i64 x)) (hk:k≤65536) (hc:1≤c):Calls Tryz.prog 181 #[.slice (some ⟨b,0,none⟩) 1 c,.int .i64 k] w fun e w'=>∃ v,e=.returned v∧Own Zr 1 3 w.heap.size w' v (List.replicate k x)∧Below w.heap.size w w':=by
 have hmul:=Any.bits_Mul Tryz.mulF 1 k (by omega) (by omega) w
 have hmul2:Calls Tryz.prog 204 #[.int .u64 1,.int .u64 k] w fun e w'=>e=.returned (.tuple #[.int .u64 0,.int .u64 k])∧w'=w:=by
  have e1:1*k / 18446744073709551616=0:=by omega
  have e2:1*k % 18446744073709551616=k:=by omega
  rw[e1,e2] at hmul
  exact hmul
 have HM:=Lib.hid hmul2
 clear hmul hmul2
 obtain ⟨i0,hi,hy0,hy1,hy2⟩:=info_parts Uc
 have hmk:=run_makeSlice (P:=Tryz.prog) w 100 3 i0 (Value.int .i64 0) Tryz.underlying100 hi hy0 .i64 .i64 (k:Int) (k:Int) (by omega) (by omega) (by rw[hy1];omega) (by rw[hy2];omega) (by omega)
 rw[hy1,Int.toNat_natCast,TV (Value.int .i64 0) rfl] at hmk
 obtain ⟨g,hg⟩:=Je (w.heap.size)
 rw[hg] at hmk
 obtain ⟨Z,hZ⟩:∃ Z:World,w.alloc (.cells (ZH (Value.int .i64 0) (Value.int .i64 0) k 0).toArray 3)=Z:=⟨_,rfl⟩
 have hz:Z.heap[g]?=some (.cells (ZH (Value.int .i64 x) (Value.int .i64 0) k 0).toArray 3 (0,0)):=by rw[←hZ,←hg];exact ZD w _
 have HB0:Hid (Below g w Z):=Jh (by rw[←hZ,←hg];exact (Below.refl _ _).alloc (Nat.le_refl _) _)
 rw[hZ] at hmk
 have hbZ:Z.cell? ⟨b,0,none⟩=some (Value.int .i64 x):=Zp (by rw[hg];exact HB0.out) hb
 have hsz:(Tryz.prog.info? 3).map (·.size)=some 1:=by rw[hi];simp[hy1]
 have h64:IntKind.u64.wrap (k:Int)=(k:Int):=by rw[Xk];omega
 go_enter Tryz.func181,Tryz.ntmps181
 go_wp2_with fail
 refine HM.out.mono ?_
 rintro e w5 ⟨rfl,e5⟩
 rw[e5]
 clear e5 w5
 by_cases hk0:k=0
 ·have hcp:=run_copy_none (P:=Tryz.prog) Z 100 100 3 3 (some ⟨g,0,none⟩) (some ⟨b,0,none⟩) k k 1 c Tryz.underlying100 hsz (by rw[hk0];rfl)
  have HK0:=Lib.hid hk0
  clear hk0
  go_wp2_with fail
  go_loopg [8] 0 (fun gk nv wr=>gk=0∧nv=.int .i64 0∧wr=Z)
  case atStart=>exact ⟨rfl,rfl,rfl⟩
  case round =>
   obtain ⟨rfl,rfl,rfl⟩:=hrel
   have hk1:¬ (0:Int)<(k:Int):=by have:=HK0.out;omega
   have HO:Hid (Own Zr 1 3 g wr (.slice (some ⟨g,0,none⟩) k k) (List.replicate k x)):=Jh (SN (u:=(Value.int .i64 x)) (z:=(Value.int .i64 0)) (fun x=>⟨_,rfl⟩) rfl (by rw[HK0.out] at hz ⊢;exact hz) hk)
   clear hz hcp hmk hbZ hk
   go_wp2_with fail
   go_ret
   try rw[hg]
   exact ⟨_,rfl,HO.out,HB0.out⟩
 ·have hcp:=run_copy_row (P:=Tryz.prog) Z 100 100 3 3 g 0 k k ⟨b,0,none⟩ 1 c (ZH (Value.int .i64 x) (Value.int .i64 0) k 0).toArray 3 [(Value.int .i64 x)] Tryz.underlying100 hsz hz (by simp[Nat.min_def];omega) (fun j v hj=>by cases j with|zero=>cases hj;exact hbZ|succ j=>simp at hj) (by simp[ZH];omega) (fun v hv=>by rw[List.mem_singleton.1 hv];rfl)
  have hr1:(ZH (Value.int .i64 x) (Value.int .i64 0) k 0).toArray.toList.take 0++[(Value.int .i64 x)]++(ZH (Value.int .i64 x) (Value.int .i64 0) k 0).toArray.toList.drop (0+[(Value.int .i64 x)].length)=ZH (Value.int .i64 x) (Value.int .i64 0) k 1:=UG (m:=1) (by omega)
  rw[hr1] at hcp
  obtain ⟨Z1,hZ1⟩:=Je (Z.setRow g (ZH (Value.int .i64 x) (Value.int .i64 0) k 1).toArray)
  rw[hZ1] at hcp
  have HZ1:Hid (Z1.heap[g]?=some (.cells (ZH (Value.int .i64 x) (Value.int .i64 0) k 1).toArray 3 (0,0))∧Below g w Z1):=Lib.hid ⟨by rw[←hZ1];exact setRow_heap Z g _ _ _ _ hz,by rw[←hZ1];exact below_setRow HB0.out (Nat.le_refl _) _⟩
  clear hr1 hZ1 hz hbZ hZ
  go_wp2_with fail
  clear hcp hmk
  go_loopg [8] (k - 1) (fun gk nv wr=>∃ j:Nat,gk=k - j∧nv=.int .i64 j∧1≤j∧j≤k∧Hid (wr.heap[g]?=some (.cells (ZH (Value.int .i64 x) (Value.int .i64 0) k j).toArray 3 (0,0))∧Below g w wr))
  case atStart=>exact ⟨1,rfl,rfl,Nat.le_refl _,by omega,HZ1⟩
  case round =>
   clear HZ1
   obtain ⟨j,hgk,rfl,hj1,hjk,HR⟩:=hrel
   have HGK:=Lib.hid hgk
   clear hgk
   by_cases hlt:j<k
   ·have hl1:(j:Int)<(k:Int):=by omega
    go_upto_region 9 with fail
    have HR1:Hid (wr.drew.heap[g]?=some (.cells (ZH (Value.int .i64 x) (Value.int .i64 0) k j).toArray 3 (0,0))∧Below g w wr.drew):=Lib.hid ⟨HR.out.1,HR.out.2.drew⟩
    clear HR
    have hS0:(fun _:World=>True) wr.drew:=trivial
    refine Z8 (fun _=>True) (fun _=>false) (by kernel_rfl) ?_
    generalize wr.drew=W1 at HR1 ⊢
    have hn1:((k:Int) - (j:Int)).toNat=k - j:=by omega
    have hn2:¬ (k:Int)<(j:Int):=by omega
    have hn3:(j:Int)≤(k:Int):=by omega
    have hne:¬ k=j:=by omega
    refine J0 0 38 _ hS0 ?_
    try simp only[Ja]
    refine J0 1 39 _ hS0 ?_
    try simp only[Ja]
    refine J0 2 40 _ hS0 ?_
    try simp only[Ja]
    refine J0 3 41 (.slice (some ⟨g,j,none⟩) (k - j) (k - j)) hS0 ?_
    try simp only[Ja]
    refine J0 4 42 _ hS0 ?_
    try simp only[Ja]
    refine J0 5 43 _ hS0 ?_
    try simp only[Ja]
    refine J0 6 44 (.slice (some ⟨g,0,none⟩) j k) hS0 ?_
    try simp only[Ja]
    obtain ⟨m,hm,hmj,hmle⟩:∃ m,m=Nat.min j (k - j)∧m≤j∧(j+m≤k∧1≤m):=⟨_,rfl,Nat.min_le_left _ _,by simp only[Nat.min_def];split <;> omega⟩
    have hcp:=run_copy_row (P:=Tryz.prog) W1 100 100 3 3 g j (k - j) (k - j) ⟨g,0,none⟩ j k (ZH (Value.int .i64 x) (Value.int .i64 0) k j).toArray 3 (List.replicate m (Value.int .i64 x)) Tryz.underlying100 hsz HR1.out.1 (by rw[List.length_replicate];exact hm) (fun i v hi=>by
     have hi2:=(List.getElem?_eq_some_iff.1 hi).1
     rw[List.length_replicate] at hi2
     rw[List.getElem?_replicate,if_pos hi2] at hi
     cases hi
     have hij:i<j:=by omega
     have h:=Z0L HR1.out.1 hij
     rw[show (Addr.add ⟨g,0,none⟩ i)=⟨g,i,none⟩ from by unfold Addr.add;split <;> simp_all]
     exact h) (by rw[List.length_replicate];have:=Z2b (u:=(Value.int .i64 x)) (z:=(Value.int .i64 0)) hjk;simp only[List.size_toArray];omega) (fun v hv=>by rw[(List.mem_replicate.1 hv).2];rfl)
    have hr1:(ZH (Value.int .i64 x) (Value.int .i64 0) k j).toArray.toList.take j++List.replicate m (Value.int .i64 x)++(ZH (Value.int .i64 x) (Value.int .i64 0) k j).toArray.toList.drop (j+(List.replicate m (Value.int .i64 x)).length)=ZH (Value.int .i64 x) (Value.int .i64 0) k (j+m):=by rw[List.length_replicate];exact UG hmle.1
    rw[hr1,List.length_replicate] at hcp
    clear hm
    have HR2:Hid ((W1.setRow g (ZH (Value.int .i64 x) (Value.int .i64 0) k (j+m)).toArray).heap[g]?=some (.cells (ZH (Value.int .i64 x) (Value.int .i64 0) k (j+m)).toArray 3 (0,0))∧Below g w (W1.setRow g (ZH (Value.int .i64 x) (Value.int .i64 0) k (j+m)).toArray)):=Lib.hid ⟨setRow_heap W1 g _ _ _ _ HR1.out.1,below_setRow HR1.out.2 (Nat.le_refl _) _⟩
    generalize W1.setRow g (ZH (Value.int .i64 x) (Value.int .i64 0) k (j+m)).toArray=W2 at hcp HR2
    refine Zy (i:=7) (d:=some 45) (v:=.int .i64 m) (w':=W2) (by kernel_rfl) rfl rfl (by rfl) (Z0a rfl rfl rfl hcp) (fun _=>trivial) ?_
    try simp only[Ja]
    have hadd:IntKind.i64.wrap ((j:Int)+(m:Int))=((j+m:Nat):Int):=by rw[IntWalk.i64_in _ (by omega)];omega
    refine Zy (i:=8) (d:=some 46) (v:=.int .i64 ((j+m:Nat):Int)) (w':=W2) (by kernel_rfl) rfl rfl (by rfl) (by go_simp;try rfl) (fun _=>trivial) ?_
    try simp only[Ja]
    refine Zy (i:=9) (d:=some 8) (v:=.int .i64 ((j+m:Nat):Int)) (w':=W2) (by kernel_rfl) rfl rfl (by rfl) (by go_simp;try rfl) (fun _=>trivial) ?_
    try simp only[Ja]
    refine Z3 (by kernel_rfl) ?_ _
    clear hS0 hcp hr1 HR1
    go_wp2_with fail
    go_roundg (k - (j+m))
    case measure=>rw[HGK.out];omega
    case rel=>exact ⟨j+m,rfl,rfl,by omega,by omega,HR2⟩
   ·obtain rfl:j=k:=by omega
    have hl1:¬ (j:Int)<(j:Int):=by omega
    have HO:Hid (Own Zr 1 3 g wr (.slice (some ⟨g,0,none⟩) j j) (List.replicate j x)):=Jh (SN (u:=(Value.int .i64 x)) (z:=(Value.int .i64 0)) (fun x=>⟨_,rfl⟩) rfl HR.out.1 hk)
    clear hlt hk
    go_wp2_with fail
    go_ret
    try rw[hg]
    exact ⟨_,rfl,HO.out,HR.out.2⟩
theorem Z4P (x:Bool) (b c k:Nat) (w:World) (hb:w.cell? ⟨b,0,none⟩=some (.bool x)) (hk:k≤65536) (hc:1≤c):Calls Tryz.prog 182 #[.slice (some ⟨b,0,none⟩) 1 c,.int .i64 k] w fun e w'=>∃ v,e=.returned v∧Own btc 1 4 w.heap.size w' v (List.replicate k x)∧Below w.heap.size w w':=by
 have hmul:=Any.bits_Mul Tryz.mulF 1 k (by omega) (by omega) w
 have hmul2:Calls Tryz.prog 204 #[.int .u64 1,.int .u64 k] w fun e w'=>e=.returned (.tuple #[.int .u64 0,.int .u64 k])∧w'=w:=by
  have e1:1*k / 18446744073709551616=0:=by omega
  have e2:1*k % 18446744073709551616=k:=by omega
  rw[e1,e2] at hmul
  exact hmul
 have HM:=Lib.hid hmul2
 clear hmul hmul2
 obtain ⟨i0,hi,hy0,hy1,hy2⟩:=info_parts SM
 have hmk:=run_makeSlice (P:=Tryz.prog) w 75 4 i0 (Value.bool false) Tryz.underlying75 hi hy0 .i64 .i64 (k:Int) (k:Int) (by omega) (by omega) (by rw[hy1];omega) (by rw[hy2];omega) (by omega)
 rw[hy1,Int.toNat_natCast,TV (Value.bool false) rfl] at hmk
 obtain ⟨g,hg⟩:=Je (w.heap.size)
 rw[hg] at hmk
 obtain ⟨Z,hZ⟩:∃ Z:World,w.alloc (.cells (ZH (Value.bool false) (Value.bool false) k 0).toArray 4)=Z:=⟨_,rfl⟩
 have hz:Z.heap[g]?=some (.cells (ZH (Value.bool x) (Value.bool false) k 0).toArray 4 (0,0)):=by rw[←hZ,←hg];exact ZD w _
 have HB0:Hid (Below g w Z):=Jh (by rw[←hZ,←hg];exact (Below.refl _ _).alloc (Nat.le_refl _) _)
 rw[hZ] at hmk
 have hbZ:Z.cell? ⟨b,0,none⟩=some (Value.bool x):=Zp (by rw[hg];exact HB0.out) hb
 have hsz:(Tryz.prog.info? 4).map (·.size)=some 1:=by rw[hi];simp[hy1]
 have h64:IntKind.u64.wrap (k:Int)=(k:Int):=by rw[Xk];omega
 go_enter Tryz.func182,Tryz.ntmps182
 go_wp2_with fail
 refine HM.out.mono ?_
 rintro e w5 ⟨rfl,e5⟩
 rw[e5]
 clear e5 w5
 by_cases hk0:k=0
 ·have hcp:=run_copy_none (P:=Tryz.prog) Z 75 75 3 4 (some ⟨g,0,none⟩) (some ⟨b,0,none⟩) k k 1 c Tryz.underlying75 hsz (by rw[hk0];rfl)
  have HK0:=Lib.hid hk0
  clear hk0
  go_wp2_with fail
  go_loopg [8] 0 (fun gk nv wr=>gk=0∧nv=.int .i64 0∧wr=Z)
  case atStart=>exact ⟨rfl,rfl,rfl⟩
  case round =>
   obtain ⟨rfl,rfl,rfl⟩:=hrel
   have hk1:¬ (0:Int)<(k:Int):=by have:=HK0.out;omega
   have HO:Hid (Own btc 1 4 g wr (.slice (some ⟨g,0,none⟩) k k) (List.replicate k x)):=Jh (SN (u:=(Value.bool x)) (z:=(Value.bool false)) (fun x=>⟨_,rfl⟩) rfl (by rw[HK0.out] at hz ⊢;exact hz) hk)
   clear hz hcp hmk hbZ hk
   go_wp2_with fail
   go_ret
   try rw[hg]
   exact ⟨_,rfl,HO.out,HB0.out⟩
 ·have hcp:=run_copy_row (P:=Tryz.prog) Z 75 75 3 4 g 0 k k ⟨b,0,none⟩ 1 c (ZH (Value.bool x) (Value.bool false) k 0).toArray 4 [(Value.bool x)] Tryz.underlying75 hsz hz (by simp[Nat.min_def];omega) (fun j v hj=>by cases j with|zero=>cases hj;exact hbZ|succ j=>simp at hj) (by simp[ZH];omega) (fun v hv=>by rw[List.mem_singleton.1 hv];rfl)
  have hr1:(ZH (Value.bool x) (Value.bool false) k 0).toArray.toList.take 0++[(Value.bool x)]++(ZH (Value.bool x) (Value.bool false) k 0).toArray.toList.drop (0+[(Value.bool x)].length)=ZH (Value.bool x) (Value.bool false) k 1:=UG (m:=1) (by omega)
  rw[hr1] at hcp
  obtain ⟨Z1,hZ1⟩:=Je (Z.setRow g (ZH (Value.bool x) (Value.bool false) k 1).toArray)
  rw[hZ1] at hcp
  have HZ1:Hid (Z1.heap[g]?=some (.cells (ZH (Value.bool x) (Value.bool false) k 1).toArray 4 (0,0))∧Below g w Z1):=Lib.hid ⟨by rw[←hZ1];exact setRow_heap Z g _ _ _ _ hz,by rw[←hZ1];exact below_setRow HB0.out (Nat.le_refl _) _⟩
  clear hr1 hZ1 hz hbZ hZ
  go_wp2_with fail
  clear hcp hmk
  go_loopg [8] (k - 1) (fun gk nv wr=>∃ j:Nat,gk=k - j∧nv=.int .i64 j∧1≤j∧j≤k∧Hid (wr.heap[g]?=some (.cells (ZH (Value.bool x) (Value.bool false) k j).toArray 4 (0,0))∧Below g w wr))
  case atStart=>exact ⟨1,rfl,rfl,Nat.le_refl _,by omega,HZ1⟩
  case round =>
   clear HZ1
   obtain ⟨j,hgk,rfl,hj1,hjk,HR⟩:=hrel
   have HGK:=Lib.hid hgk
   clear hgk
   by_cases hlt:j<k
   ·have hl1:(j:Int)<(k:Int):=by omega
    go_upto_region 9 with fail
    have HR1:Hid (wr.drew.heap[g]?=some (.cells (ZH (Value.bool x) (Value.bool false) k j).toArray 4 (0,0))∧Below g w wr.drew):=Lib.hid ⟨HR.out.1,HR.out.2.drew⟩
    clear HR
    have hS0:(fun _:World=>True) wr.drew:=trivial
    refine Z8 (fun _=>True) (fun _=>false) (by kernel_rfl) ?_
    generalize wr.drew=W1 at HR1 ⊢
    have hn1:((k:Int) - (j:Int)).toNat=k - j:=by omega
    have hn2:¬ (k:Int)<(j:Int):=by omega
    have hn3:(j:Int)≤(k:Int):=by omega
    have hne:¬ k=j:=by omega
    refine J0 0 38 _ hS0 ?_
    try simp only[Ja]
    refine J0 1 39 _ hS0 ?_
    try simp only[Ja]
    refine J0 2 40 _ hS0 ?_
    try simp only[Ja]
    refine J0 3 41 (.slice (some ⟨g,j,none⟩) (k - j) (k - j)) hS0 ?_
    try simp only[Ja]
    refine J0 4 42 _ hS0 ?_
    try simp only[Ja]
    refine J0 5 43 _ hS0 ?_
    try simp only[Ja]
    refine J0 6 44 (.slice (some ⟨g,0,none⟩) j k) hS0 ?_
    try simp only[Ja]
    obtain ⟨m,hm,hmj,hmle⟩:∃ m,m=Nat.min j (k - j)∧m≤j∧(j+m≤k∧1≤m):=⟨_,rfl,Nat.min_le_left _ _,by simp only[Nat.min_def];split <;> omega⟩
    have hcp:=run_copy_row (P:=Tryz.prog) W1 75 75 3 4 g j (k - j) (k - j) ⟨g,0,none⟩ j k (ZH (Value.bool x) (Value.bool false) k j).toArray 4 (List.replicate m (Value.bool x)) Tryz.underlying75 hsz HR1.out.1 (by rw[List.length_replicate];exact hm) (fun i v hi=>by
     have hi2:=(List.getElem?_eq_some_iff.1 hi).1
     rw[List.length_replicate] at hi2
     rw[List.getElem?_replicate,if_pos hi2] at hi
     cases hi
     have hij:i<j:=by omega
     have h:=Z0L HR1.out.1 hij
     rw[show (Addr.add ⟨g,0,none⟩ i)=⟨g,i,none⟩ from by unfold Addr.add;split <;> simp_all]
     exact h) (by rw[List.length_replicate];have:=Z2b (u:=(Value.bool x)) (z:=(Value.bool false)) hjk;simp only[List.size_toArray];omega) (fun v hv=>by rw[(List.mem_replicate.1 hv).2];rfl)
    have hr1:(ZH (Value.bool x) (Value.bool false) k j).toArray.toList.take j++List.replicate m (Value.bool x)++(ZH (Value.bool x) (Value.bool false) k j).toArray.toList.drop (j+(List.replicate m (Value.bool x)).length)=ZH (Value.bool x) (Value.bool false) k (j+m):=by rw[List.length_replicate];exact UG hmle.1
    rw[hr1,List.length_replicate] at hcp
    clear hm
    have HR2:Hid ((W1.setRow g (ZH (Value.bool x) (Value.bool false) k (j+m)).toArray).heap[g]?=some (.cells (ZH (Value.bool x) (Value.bool false) k (j+m)).toArray 4 (0,0))∧Below g w (W1.setRow g (ZH (Value.bool x) (Value.bool false) k (j+m)).toArray)):=Lib.hid ⟨setRow_heap W1 g _ _ _ _ HR1.out.1,below_setRow HR1.out.2 (Nat.le_refl _) _⟩
    generalize W1.setRow g (ZH (Value.bool x) (Value.bool false) k (j+m)).toArray=W2 at hcp HR2
    refine Zy (i:=7) (d:=some 45) (v:=.int .i64 m) (w':=W2) (by kernel_rfl) rfl rfl (by rfl) (Z0a rfl rfl rfl hcp) (fun _=>trivial) ?_
    try simp only[Ja]
    have hadd:IntKind.i64.wrap ((j:Int)+(m:Int))=((j+m:Nat):Int):=by rw[IntWalk.i64_in _ (by omega)];omega
    refine Zy (i:=8) (d:=some 46) (v:=.int .i64 ((j+m:Nat):Int)) (w':=W2) (by kernel_rfl) rfl rfl (by rfl) (by go_simp;try rfl) (fun _=>trivial) ?_
    try simp only[Ja]
    refine Zy (i:=9) (d:=some 8) (v:=.int .i64 ((j+m:Nat):Int)) (w':=W2) (by kernel_rfl) rfl rfl (by rfl) (by go_simp;try rfl) (fun _=>trivial) ?_
    try simp only[Ja]
    refine Z3 (by kernel_rfl) ?_ _
    clear hS0 hcp hr1 HR1
    go_wp2_with fail
    go_roundg (k - (j+m))
    case measure=>rw[HGK.out];omega
    case rel=>exact ⟨j+m,rfl,rfl,by omega,by omega,HR2⟩
   ·obtain rfl:j=k:=by omega
    have hl1:¬ (j:Int)<(j:Int):=by omega
    have HO:Hid (Own btc 1 4 g wr (.slice (some ⟨g,0,none⟩) j j) (List.replicate j x)):=Jh (SN (u:=(Value.bool x)) (z:=(Value.bool false)) (fun x=>⟨_,rfl⟩) rfl HR.out.1 hk)
    clear hlt hk
    go_wp2_with fail
    go_ret
    try rw[hg]
    exact ⟨_,rfl,HO.out,HR.out.2⟩
end Go.Proofs.YtgmdimbiipemhaaGreatDoor
namespace Go.Proofs.YtgmdimbiipemhaaGreatDoor
open Go.RowKit
def Vb (w:World) (l:List UInt8) (e:Ending) (w':World):Prop:=∃ v,e=.returned v∧Own u8c 1 5 w.heap.size w' v l∧Below w.heap.size w w'
theorem Ww {n:Nat} (h:n<18446744073709551616):(Z6 n).length≤10:=(XQ n 10 (by omega)).2 (by omega)
theorem U5 (n:Nat) (w:World) (h:n<18446744073709551616):Calls Tryz.prog 64 #[.int .u64 n] w fun e w'=>Vb w (Z6 n) e w':=by
 obtain ⟨i0,hi,hz0,hz1,hz2⟩:=info_parts Ym
 have HL:=Jh (Ww h)
 go_enter Tryz.func64,Tryz.ntmps64
 go_wp2_with fail
 go_loopg [0,3] n (fun g nv ov wr=>∃ (m:Nat) (s:Sl) (l:List UInt8),g=m∧nv=.int .u64 m∧ov=.slice s.a s.n s.cap∧m<18446744073709551616∧Hid (Z6 n=l++Z6 m)∧Hid (Own u8c 1 5 w.heap.size wr (.slice s.a s.n s.cap) l∧Below w.heap.size w wr))
 case atStart=>exact ⟨n,⟨none,0,0⟩,[],rfl,rfl,rfl,h,Lib.hid rfl,Lib.hid ⟨Own.nil,Below.refl _ _⟩⟩
 case round =>
  obtain ⟨m,⟨sa,sn,sc⟩,l,hg,rfl,rfl,hm,HE,HU⟩:=hrel
  dsimp only at HU ⊢
  have HG:=Lib.hid hg
  clear hg
  have hll:l.length≤9:=by
   have h1:=HL.out
   have h2:=List.length_pos_iff.2 (VE m)
   rw[HE.out,List.length_append] at h1
   omega
  have hws:=HU.out.2.size
  by_cases h128:m<128
  ·obtain ⟨y,rfl⟩:∃ y:UInt8,m=y.toNat:=⟨UInt8.ofNat m,(YR (by omega)).symm⟩
   have hy:=y.toNat_lt
   have hle:¬ (128:Int)≤(y.toNat:Int):=by omega
   have HEE:Hid (l++[y]=Z6 n):=Jh (by rw[HE.out,XC h128];simp)
   clear h128
   go_wp2_with (at_builtin;refine Vi rfl _ _ _ rfl i0 _ 1 Tryz.underlying22 hi hz0 hz1 hz2 rfl (by omega) Z7 Wk rfl (HU.out.1.alloc _) y wr.heap.size 1 rfl (Z1a _ y) (by unfold maxLen;omega) (by omega) (by simp;omega) ?_)
   intro v' w3 hown3 hx3
   have hB3:=Ext.new (HU.out.2.alloc HU.out.2.size (.cells #[.int .u8 y.toNat] 5)) hx3 (fun i hi _ e=>by have:=(HU.out.1.blk i e).1;omega) (by simp;omega)
   rw[HEE.out] at hown3
   have HN:=Jh (And.intro hown3 hB3)
   clear hown3 hx3 hB3
   go_wp2_with fail
   go_ret
   exact ⟨_,rfl,HN.out.1,HN.out.2⟩
  ·have hle:(128:Int)≤(m:Int):=by omega
   obtain ⟨y,hy⟩:∃ y:UInt8,y=UInt8.ofNat (m % 128+128):=⟨_,rfl⟩
   have hy2:y.toNat=m % 128+128:=by rw[hy];exact YR (by omega)
   have HEE:Hid (Z6 n=(l++[y])++Z6 (m / 128)):=Jh (by rw[HE.out,Va h128,←hy];simp)
   have hq:bits .or .u8 ((m:Int) % 256) 128=(y.toNat:Int):=by
    rw[show (m:Int) % 256=((m % 256:Nat):Int) by omega,Z3R _ (by omega),hy2]
    omega
   have hmd:((m / 128:Nat):Int)=(m:Int) / 128:=by omega
   have HMD:=Lib.hid hmd
   have hlt:m / 128<m:=by omega
   have HLT:=Lib.hid hlt
   clear hy hy2 h128 hmd hlt
   go_wp2_with (at_builtin;refine Vi rfl _ _ _ rfl i0 _ 1 Tryz.underlying22 hi hz0 hz1 hz2 rfl (by omega) Z7 Wk rfl (HU.out.1.alloc _) y wr.heap.size 1 rfl (Z1a _ y) (by unfold maxLen;omega) (by omega) (by simp;omega) ?_)
   intro v' w3 hown3 hx3
   have hB3:=Ext.new (HU.out.2.alloc HU.out.2.size (.cells #[.int .u8 y.toNat] 5)) hx3 (fun i hi _ e=>by have:=(HU.out.1.blk i e).1;omega) (by simp;omega)
   obtain ⟨⟨ua,un,uc⟩,e3⟩:=hown3.sl
   dsimp only at e3
   subst e3
   have HN:=Jh (And.intro hown3 hB3)
   clear hown3 hx3 hB3 hq
   go_wp2_with fail
   go_roundg (m / 128)
   case measure=>rw[HG.out];exact HLT.out
   case rel=>exact ⟨m / 128,⟨ua,un,uc⟩,_,rfl,by first|rfl|simp,rfl,by omega,HEE,HN⟩
noncomputable def XF (b:List UInt8):Value:=match ZG b with
 | some n=>.tuple #[.int .u64 n,.int .i64 (Z6 n).length,.int .i64 0]
 | none=>.tuple #[.int .u64 0,.int .i64 0,.int .i64 31]
theorem WH {b:List UInt8} {n:Nat} (h:Wi b n):XF b=.tuple #[.int .u64 n,.int .i64 (Z6 n).length,.int .i64 0]:=by unfold XF;rw[ZQ.2 h]
theorem YS {b:List UInt8} (h:∀ n,¬ Wi b n):XF b=.tuple #[.int .u64 0,.int .i64 0,.int .i64 31]:=by unfold XF;rw[Tu.2 h]
theorem Sn {b:List UInt8} {i:Nat} {x:UInt8} (hx:b[i]?=some x):Yb (b.take (i+1))=Yb (b.take i)+x.toNat % 128*128 ^ i:=by
 rw[Q4 hx,Uw,List.length_take,Nat.min_eq_left (by have:=(List.getElem?_eq_some_iff.1 hx).1;omega)]
theorem Tb {vk xl k:Nat} (hv:vk<128 ^ k) (h:(xl<128∧k≤8)∨(xl≤1∧k=9)):bits .or .u64 (vk:Int) (IntKind.u64.wrap ((xl:Int)*2 ^ (7*k)))=((vk+xl*128 ^ k:Nat):Int)∧vk+xl*128 ^ k<18446744073709551616:=by
 have e:128 ^ k=2 ^ (7*k):=by rw[Nat.pow_mul]
 have hs:vk+xl*128 ^ k<18446744073709551616:=by
  rcases h with ⟨h1,h2⟩|⟨h1,rfl⟩
  ·have h3:128 ^ k≤128 ^ 8:=Nat.pow_le_pow_right (by omega) h2
   have h4:xl*128 ^ k≤127*128 ^ k:=Nat.mul_le_mul_right _ (by omega)
   omega
  ·have h4:xl*128 ^ 9≤1*128 ^ 9:=Nat.mul_le_mul_right _ h1
   omega
 refine ⟨?_,hs⟩
 rw[e] at hs hv ⊢
 have e2:((xl:Int)*2 ^ (7*k))=((xl*2 ^ (7*k):Nat):Int):=by push_cast;rfl
 rw[e2,Xk,show ((xl*2 ^ (7*k):Nat):Int) % 18446744073709551616=((xl*2 ^ (7*k):Nat):Int) by omega]
 exact Z11 vk xl (7*k) hv hs
theorem V7 (v:Value) (b:List UInt8) (w:World) (h:Z0 u8c 1 w v b):Calls Tryz.prog 103 #[v] w fun e w'=>e=.returned (XF b)∧w=w':=by
 obtain ⟨a,cap,rfl,hcap,hmax,-⟩:=id h
 unfold maxLen at hmax
 have HH:=Lib.hid h
 obtain ⟨mn,hmn⟩:∃ mn:Nat,mn=min b.length 10:=⟨_,rfl⟩
 have hmn1:mn≤b.length:=by omega
 have hmn2:mn≤10:=by omega
 have HMN:=Jh (show mn=b.length∨mn=10 by omega)
 clear h hmn
 have h3:b.length<10∨b.length=10∨10<b.length:=by omega
 go_enter Tryz.func103,Tryz.ntmps103
 rcases h3 with h3|h3|h3
 ·have hi1:(b.length:Int)<10:=by omega
  have hi2:(b.length:Int)≤10:=by omega
  obtain rfl:mn=b.length:=by rcases HMN.out with e|e <;> omega
  go_wp2_with fail
  go_loopg [5,11] (b.length) (fun g nv iv wr=>∃ k:Nat,g=(b.length) - k∧k≤(b.length)∧nv=.int .u64 (Yb (b.take k))∧iv=.int .i64 k∧Hid (WV b k)∧w=wr)
  case atStart=>exact ⟨0,rfl,Nat.zero_le _,by simp[Yb],rfl,Jh (Ss b),rfl⟩
  case round =>
   obtain ⟨k,hg,hk,rfl,rfl,HGO,rfl⟩:=hrel
   have HG:=Lib.hid hg
   clear hg
   by_cases hlt:k<(b.length)
   ·obtain ⟨c,hc⟩:∃ c,b[k]?=some c:=⟨_,List.getElem?_eq_getElem (by omega)⟩
    obtain ⟨bb,o,rfl,c0⟩:=HH.out.at1 hc rfl
    have hcl:=c.toNat_lt
    have hk1:(k:Int)<(b.length:Int):=by omega
    have hk2:(k:Int)<10:=by omega
    have hk3:(k:Int)≤9:=by omega
    have HC:=Lib.hid hc
    obtain ⟨xl,hxl⟩:=Je (c.toNat % 128)
    have hand:bits .and .u8 (c.toNat:Int) 127=(xl:Int):=by rw[UX _ (by omega),hxl]
    have hx128:xl<128:=by omega
    have HXL:=Lib.hid hxl
    have HV:=Jh (Sn hc)
    have HVL:=Jh (Vw (b.take k))
    obtain ⟨vk,hvk⟩:=Je (Yb (b.take k))
    rw[hvk]
    have HVK:=Lib.hid hvk
    clear hc hxl hvk
    have hvk2:vk<128 ^ k:=by rw[←HVK.out];have:=Vw (b.take k);rwa [List.length_take,Nat.min_eq_left (by omega)] at this
    have HVK2:=Lib.hid hvk2
    clear hvk2
    by_cases h9:k=9
    ·exfalso;omega
    ·have hk9:(k:Int)<9:=by omega
     have hk91:¬ (k:Int)=9:=by omega
     have hk92:((k:Int) == 9)=false:=by simpa using hk91
     obtain ⟨hor,hnb⟩:=Tb (xl:=xl) HVK2.out (.inl ⟨hx128,by omega⟩)
     obtain ⟨nn,hnn⟩:=Je (Yb (b.take (k+1)))
     have hnv:vk+xl*128 ^ k=nn:=by rw[←hnn,HV.out,HVK.out,HXL.out]
     rw[hnv] at hor hnb
     have HNN:=Lib.hid hnn
     have HOR:=Lib.hid hor
     have hor1:=HOR.out
     clear hor hnv hnn
     by_cases hc128:c.toNat<128
     ·have hcl1:(c.toNat:Int)<128:=by omega
      have hxc:xl=c.toNat:=by rw[←HXL.out];exact Nat.mod_eq_of_lt hc128
      by_cases h0:0<k∧xl=0
      ·obtain ⟨h01,rfl⟩:=h0
       have hk0:(0:Int)<(k:Int):=by omega
       have HR:=Jh (YS (fun n=>HGO.out.bad HC.out (.inl ⟨h01,hxc.symm⟩)))
       clear h01 hxc hc128
       go_wp2_with fail
       go_ret3
       exact ⟨by rw[HR.out];rfl,rfl⟩
      ·have hst:=HGO.out.stop HC.out hc128 (fun h1 h2=>h0 ⟨h1,hxc.trans h2⟩) (by rw[HNN.out];exact hnb)
       rw[HNN.out] at hst
       have HR:=Jh (WH hst.1)
       have HL:=Lib.hid hst.2
       have h0k:¬ 0<k∨(0<k∧¬ xl=0):=by
        by_cases h01:0<k
        ·exact .inr ⟨h01,fun e=>h0 ⟨h01,e⟩⟩
        ·exact .inl h01
       clear hxc hc128 h0 hst
       rcases h0k with h0k|⟨h0k,h0x⟩
       ·have hk0:¬ (0:Int)<(k:Int):=by omega
        go_wp2_with fail
        go_ret3
        exact ⟨by rw[HR.out,HL.out];simp,rfl⟩
       ·have hk0:(0:Int)<(k:Int):=by omega
        have hx0:¬ (xl:Int)=0:=by omega
        have hx02:((xl:Int) == 0)=false:=by simpa using hx0
        clear h0x
        go_wp2_with fail
        go_ret3
        exact ⟨by rw[HR.out,HL.out];simp,rfl⟩
     ·have hcl1:¬ (c.toNat:Int)<128:=by omega
      have HGO2:=Jh (HGO.out.succ HC.out (by omega))
      clear hc128
      go_wp2_with fail
      go_roundg ((b.length) - (k+1))
      case measure=>rw[HG.out];omega
      case rel=>exact ⟨k+1,rfl,by omega,by first|rw[HNN.out]|(simp;exact HNN.out.symm),by simp,HGO2,rfl⟩
   ·obtain rfl:k=(b.length):=by omega
    have hkk:¬ (b.length:Int)<(b.length:Int):=by omega
    have HR:=Jh (YS (fun n=>HGO.out.over (.inl rfl)))
    clear hlt hk
    go_wp2_with fail
    go_ret3
    exact ⟨by rw[HR.out];rfl,rfl⟩
 ·have hi1:¬ (b.length:Int)<10:=by omega
  have hi2:(b.length:Int)≤10:=by omega
  have hi3:¬ (10:Int)<(b.length:Int):=by omega
  obtain rfl:mn=10:=by rcases HMN.out with e|e <;> omega
  go_wp2_with fail
  go_loopg [5,11] (10) (fun g nv iv wr=>∃ k:Nat,g=(10) - k∧k≤(10)∧nv=.int .u64 (Yb (b.take k))∧iv=.int .i64 k∧Hid (WV b k)∧w=wr)
  case atStart=>exact ⟨0,rfl,Nat.zero_le _,by simp[Yb],rfl,Jh (Ss b),rfl⟩
  case round =>
   obtain ⟨k,hg,hk,rfl,rfl,HGO,rfl⟩:=hrel
   have HG:=Lib.hid hg
   clear hg
   by_cases hlt:k<(10)
   ·obtain ⟨c,hc⟩:∃ c,b[k]?=some c:=⟨_,List.getElem?_eq_getElem (by omega)⟩
    obtain ⟨bb,o,rfl,c0⟩:=HH.out.at1 hc rfl
    have hcl:=c.toNat_lt
    have hk1:(k:Int)<(b.length:Int):=by omega
    have hk2:(k:Int)<10:=by omega
    have hk3:(k:Int)≤9:=by omega
    have HC:=Lib.hid hc
    obtain ⟨xl,hxl⟩:=Je (c.toNat % 128)
    have hand:bits .and .u8 (c.toNat:Int) 127=(xl:Int):=by rw[UX _ (by omega),hxl]
    have hx128:xl<128:=by omega
    have HXL:=Lib.hid hxl
    have HV:=Jh (Sn hc)
    have HVL:=Jh (Vw (b.take k))
    obtain ⟨vk,hvk⟩:=Je (Yb (b.take k))
    rw[hvk]
    have HVK:=Lib.hid hvk
    clear hc hxl hvk
    have hvk2:vk<128 ^ k:=by rw[←HVK.out];have:=Vw (b.take k);rwa [List.length_take,Nat.min_eq_left (by omega)] at this
    have HVK2:=Lib.hid hvk2
    clear hvk2
    by_cases h9:k=9
    ·subst h9
     by_cases hx:1<xl
     ·have hx1:(1:Int)<(xl:Int):=by omega
      have HR:=Jh (YS (fun n=>HGO.out.bad HC.out (.inr ⟨rfl,by rw[HXL.out];exact hx⟩)))
      clear hx
      go_wp2_with fail
      go_ret3
      exact ⟨by rw[HR.out];rfl,rfl⟩
     ·have hx1:¬ (1:Int)<(xl:Int):=by omega
      obtain ⟨hor,hnb⟩:=Tb (xl:=xl) HVK2.out (.inr ⟨by omega,rfl⟩)
      obtain ⟨nn,hnn⟩:=Je (Yb (b.take (9+1)))
      have hnv:vk+xl*128 ^ 9=nn:=by rw[←hnn,HV.out,HVK.out,HXL.out]
      rw[hnv] at hor hnb
      have HNN:=Lib.hid hnn
      have HOR:=Lib.hid hor
      have hor1:=HOR.out
      clear hor hnv hnn
      have hor2:bits .or .u64 (vk:Int) (IntKind.u64.wrap ((xl:Int)*9223372036854775808))=(nn:Int):=HOR.out
      have hor3:bits .or .u64 (vk:Int) ((xl:Int)*9223372036854775808)=(nn:Int):=by rw[←hor2,Xk,show (xl:Int)*9223372036854775808 % 18446744073709551616=(xl:Int)*9223372036854775808 by omega]
      by_cases hc128:c.toNat<128
      ·have hcl1:(c.toNat:Int)<128:=by omega
       have hxc:xl=c.toNat:=by rw[←HXL.out];exact Nat.mod_eq_of_lt hc128
       by_cases h0:0<9∧xl=0
       ·obtain ⟨h01,rfl⟩:=h0
        have hk0:(0:Int)<(9:Int):=by omega
        have HR:=Jh (YS (fun n=>HGO.out.bad HC.out (.inl ⟨h01,hxc.symm⟩)))
        clear h01 hxc hc128
        go_wp2_with fail
        go_ret3
        exact ⟨by rw[HR.out];rfl,rfl⟩
       ·have hst:=HGO.out.stop HC.out hc128 (fun h1 h2=>h0 ⟨h1,hxc.trans h2⟩) (by rw[HNN.out];exact hnb)
        rw[HNN.out] at hst
        have HR:=Jh (WH hst.1)
        have HL:=Lib.hid hst.2
        have h0k:¬ 0<9∨(0<9∧¬ xl=0):=by
         by_cases h01:0<9
         ·exact .inr ⟨h01,fun e=>h0 ⟨h01,e⟩⟩
         ·exact .inl h01
        clear hxc hc128 h0 hst
        rcases h0k with h0k|⟨h0k,h0x⟩
        ·exact absurd (show 0<9 by decide) h0k
        ·have hk0:(0:Int)<(9:Int):=by omega
         have hx0:¬ (xl:Int)=0:=by omega
         have hx02:((xl:Int) == 0)=false:=by simpa using hx0
         clear h0x
         go_wp2_with fail
         go_ret3
         exact ⟨by rw[HR.out,HL.out];simp,rfl⟩
      ·have hcl1:¬ (c.toNat:Int)<128:=by omega
       have HGO2:=Jh (HGO.out.succ HC.out (by omega))
       clear hc128
       go_wp2_with fail
       go_roundg ((10) - (9+1))
       case measure=>rw[HG.out];omega
       case rel=>exact ⟨9+1,rfl,by omega,by first|rw[HNN.out]|(simp;exact HNN.out.symm),by simp,HGO2,rfl⟩
    ·have hk9:(k:Int)<9:=by omega
     have hk91:¬ (k:Int)=9:=by omega
     have hk92:((k:Int) == 9)=false:=by simpa using hk91
     obtain ⟨hor,hnb⟩:=Tb (xl:=xl) HVK2.out (.inl ⟨hx128,by omega⟩)
     obtain ⟨nn,hnn⟩:=Je (Yb (b.take (k+1)))
     have hnv:vk+xl*128 ^ k=nn:=by rw[←hnn,HV.out,HVK.out,HXL.out]
     rw[hnv] at hor hnb
     have HNN:=Lib.hid hnn
     have HOR:=Lib.hid hor
     have hor1:=HOR.out
     clear hor hnv hnn
     by_cases hc128:c.toNat<128
     ·have hcl1:(c.toNat:Int)<128:=by omega
      have hxc:xl=c.toNat:=by rw[←HXL.out];exact Nat.mod_eq_of_lt hc128
      by_cases h0:0<k∧xl=0
      ·obtain ⟨h01,rfl⟩:=h0
       have hk0:(0:Int)<(k:Int):=by omega
       have HR:=Jh (YS (fun n=>HGO.out.bad HC.out (.inl ⟨h01,hxc.symm⟩)))
       clear h01 hxc hc128
       go_wp2_with fail
       go_ret3
       exact ⟨by rw[HR.out];rfl,rfl⟩
      ·have hst:=HGO.out.stop HC.out hc128 (fun h1 h2=>h0 ⟨h1,hxc.trans h2⟩) (by rw[HNN.out];exact hnb)
       rw[HNN.out] at hst
       have HR:=Jh (WH hst.1)
       have HL:=Lib.hid hst.2
       have h0k:¬ 0<k∨(0<k∧¬ xl=0):=by
        by_cases h01:0<k
        ·exact .inr ⟨h01,fun e=>h0 ⟨h01,e⟩⟩
        ·exact .inl h01
       clear hxc hc128 h0 hst
       rcases h0k with h0k|⟨h0k,h0x⟩
       ·have hk0:¬ (0:Int)<(k:Int):=by omega
        go_wp2_with fail
        go_ret3
        exact ⟨by rw[HR.out,HL.out];simp,rfl⟩
       ·have hk0:(0:Int)<(k:Int):=by omega
        have hx0:¬ (xl:Int)=0:=by omega
        have hx02:((xl:Int) == 0)=false:=by simpa using hx0
        clear h0x
        go_wp2_with fail
        go_ret3
        exact ⟨by rw[HR.out,HL.out];simp,rfl⟩
     ·have hcl1:¬ (c.toNat:Int)<128:=by omega
      have HGO2:=Jh (HGO.out.succ HC.out (by omega))
      clear hc128
      go_wp2_with fail
      go_roundg ((10) - (k+1))
      case measure=>rw[HG.out];omega
      case rel=>exact ⟨k+1,rfl,by omega,by first|rw[HNN.out]|(simp;exact HNN.out.symm),by simp,HGO2,rfl⟩
   ·obtain rfl:k=(10):=by omega
    have hkk:¬ (10:Int)<(10:Int):=by omega
    have HR:=Jh (YS (fun n=>HGO.out.over (.inr rfl)))
    clear hlt hk
    go_wp2_with fail
    go_ret3
    exact ⟨by rw[HR.out];rfl,rfl⟩
 ·have hi1:¬ (b.length:Int)<10:=by omega
  have hi2:¬ (b.length:Int)≤10:=by omega
  have hi3:(10:Int)<(b.length:Int):=by omega
  obtain rfl:mn=10:=by rcases HMN.out with e|e <;> omega
  go_wp2_with fail
  go_loopg [5,11] (10) (fun g nv iv wr=>∃ k:Nat,g=(10) - k∧k≤(10)∧nv=.int .u64 (Yb (b.take k))∧iv=.int .i64 k∧Hid (WV b k)∧w=wr)
  case atStart=>exact ⟨0,rfl,Nat.zero_le _,by simp[Yb],rfl,Jh (Ss b),rfl⟩
  case round =>
   obtain ⟨k,hg,hk,rfl,rfl,HGO,rfl⟩:=hrel
   have HG:=Lib.hid hg
   clear hg
   by_cases hlt:k<(10)
   ·obtain ⟨c,hc⟩:∃ c,b[k]?=some c:=⟨_,List.getElem?_eq_getElem (by omega)⟩
    obtain ⟨bb,o,rfl,c0⟩:=HH.out.at1 hc rfl
    have hcl:=c.toNat_lt
    have hk1:(k:Int)<(b.length:Int):=by omega
    have hk2:(k:Int)<10:=by omega
    have hk3:(k:Int)≤9:=by omega
    have HC:=Lib.hid hc
    obtain ⟨xl,hxl⟩:=Je (c.toNat % 128)
    have hand:bits .and .u8 (c.toNat:Int) 127=(xl:Int):=by rw[UX _ (by omega),hxl]
    have hx128:xl<128:=by omega
    have HXL:=Lib.hid hxl
    have HV:=Jh (Sn hc)
    have HVL:=Jh (Vw (b.take k))
    obtain ⟨vk,hvk⟩:=Je (Yb (b.take k))
    rw[hvk]
    have HVK:=Lib.hid hvk
    clear hc hxl hvk
    have hvk2:vk<128 ^ k:=by rw[←HVK.out];have:=Vw (b.take k);rwa [List.length_take,Nat.min_eq_left (by omega)] at this
    have HVK2:=Lib.hid hvk2
    clear hvk2
    by_cases h9:k=9
    ·subst h9
     by_cases hx:1<xl
     ·have hx1:(1:Int)<(xl:Int):=by omega
      have HR:=Jh (YS (fun n=>HGO.out.bad HC.out (.inr ⟨rfl,by rw[HXL.out];exact hx⟩)))
      clear hx
      go_wp2_with fail
      go_ret3
      exact ⟨by rw[HR.out];rfl,rfl⟩
     ·have hx1:¬ (1:Int)<(xl:Int):=by omega
      obtain ⟨hor,hnb⟩:=Tb (xl:=xl) HVK2.out (.inr ⟨by omega,rfl⟩)
      obtain ⟨nn,hnn⟩:=Je (Yb (b.take (9+1)))
      have hnv:vk+xl*128 ^ 9=nn:=by rw[←hnn,HV.out,HVK.out,HXL.out]
      rw[hnv] at hor hnb
      have HNN:=Lib.hid hnn
      have HOR:=Lib.hid hor
      have hor1:=HOR.out
      clear hor hnv hnn
      have hor2:bits .or .u64 (vk:Int) (IntKind.u64.wrap ((xl:Int)*9223372036854775808))=(nn:Int):=HOR.out
      have hor3:bits .or .u64 (vk:Int) ((xl:Int)*9223372036854775808)=(nn:Int):=by rw[←hor2,Xk,show (xl:Int)*9223372036854775808 % 18446744073709551616=(xl:Int)*9223372036854775808 by omega]
      by_cases hc128:c.toNat<128
      ·have hcl1:(c.toNat:Int)<128:=by omega
       have hxc:xl=c.toNat:=by rw[←HXL.out];exact Nat.mod_eq_of_lt hc128
       by_cases h0:0<9∧xl=0
       ·obtain ⟨h01,rfl⟩:=h0
        have hk0:(0:Int)<(9:Int):=by omega
        have HR:=Jh (YS (fun n=>HGO.out.bad HC.out (.inl ⟨h01,hxc.symm⟩)))
        clear h01 hxc hc128
        go_wp2_with fail
        go_ret3
        exact ⟨by rw[HR.out];rfl,rfl⟩
       ·have hst:=HGO.out.stop HC.out hc128 (fun h1 h2=>h0 ⟨h1,hxc.trans h2⟩) (by rw[HNN.out];exact hnb)
        rw[HNN.out] at hst
        have HR:=Jh (WH hst.1)
        have HL:=Lib.hid hst.2
        have h0k:¬ 0<9∨(0<9∧¬ xl=0):=by
         by_cases h01:0<9
         ·exact .inr ⟨h01,fun e=>h0 ⟨h01,e⟩⟩
         ·exact .inl h01
        clear hxc hc128 h0 hst
        rcases h0k with h0k|⟨h0k,h0x⟩
        ·exact absurd (show 0<9 by decide) h0k
        ·have hk0:(0:Int)<(9:Int):=by omega
         have hx0:¬ (xl:Int)=0:=by omega
         have hx02:((xl:Int) == 0)=false:=by simpa using hx0
         clear h0x
         go_wp2_with fail
         go_ret3
         exact ⟨by rw[HR.out,HL.out];simp,rfl⟩
      ·have hcl1:¬ (c.toNat:Int)<128:=by omega
       have HGO2:=Jh (HGO.out.succ HC.out (by omega))
       clear hc128
       go_wp2_with fail
       go_roundg ((10) - (9+1))
       case measure=>rw[HG.out];omega
       case rel=>exact ⟨9+1,rfl,by omega,by first|rw[HNN.out]|(simp;exact HNN.out.symm),by simp,HGO2,rfl⟩
    ·have hk9:(k:Int)<9:=by omega
     have hk91:¬ (k:Int)=9:=by omega
     have hk92:((k:Int) == 9)=false:=by simpa using hk91
     obtain ⟨hor,hnb⟩:=Tb (xl:=xl) HVK2.out (.inl ⟨hx128,by omega⟩)
     obtain ⟨nn,hnn⟩:=Je (Yb (b.take (k+1)))
     have hnv:vk+xl*128 ^ k=nn:=by rw[←hnn,HV.out,HVK.out,HXL.out]
     rw[hnv] at hor hnb
     have HNN:=Lib.hid hnn
     have HOR:=Lib.hid hor
     have hor1:=HOR.out
     clear hor hnv hnn
     by_cases hc128:c.toNat<128
     ·have hcl1:(c.toNat:Int)<128:=by omega
      have hxc:xl=c.toNat:=by rw[←HXL.out];exact Nat.mod_eq_of_lt hc128
      by_cases h0:0<k∧xl=0
      ·obtain ⟨h01,rfl⟩:=h0
       have hk0:(0:Int)<(k:Int):=by omega
       have HR:=Jh (YS (fun n=>HGO.out.bad HC.out (.inl ⟨h01,hxc.symm⟩)))
       clear h01 hxc hc128
       go_wp2_with fail
       go_ret3
       exact ⟨by rw[HR.out];rfl,rfl⟩
      ·have hst:=HGO.out.stop HC.out hc128 (fun h1 h2=>h0 ⟨h1,hxc.trans h2⟩) (by rw[HNN.out];exact hnb)
       rw[HNN.out] at hst
       have HR:=Jh (WH hst.1)
       have HL:=Lib.hid hst.2
       have h0k:¬ 0<k∨(0<k∧¬ xl=0):=by
        by_cases h01:0<k
        ·exact .inr ⟨h01,fun e=>h0 ⟨h01,e⟩⟩
        ·exact .inl h01
       clear hxc hc128 h0 hst
       rcases h0k with h0k|⟨h0k,h0x⟩
       ·have hk0:¬ (0:Int)<(k:Int):=by omega
        go_wp2_with fail
        go_ret3
        exact ⟨by rw[HR.out,HL.out];simp,rfl⟩
       ·have hk0:(0:Int)<(k:Int):=by omega
        have hx0:¬ (xl:Int)=0:=by omega
        have hx02:((xl:Int) == 0)=false:=by simpa using hx0
        clear h0x
        go_wp2_with fail
        go_ret3
        exact ⟨by rw[HR.out,HL.out];simp,rfl⟩
     ·have hcl1:¬ (c.toNat:Int)<128:=by omega
      have HGO2:=Jh (HGO.out.succ HC.out (by omega))
      clear hc128
      go_wp2_with fail
      go_roundg ((10) - (k+1))
      case measure=>rw[HG.out];omega
      case rel=>exact ⟨k+1,rfl,by omega,by first|rw[HNN.out]|(simp;exact HNN.out.symm),by simp,HGO2,rfl⟩
   ·obtain rfl:k=(10):=by omega
    have hkk:¬ (10:Int)<(10:Int):=by omega
    have HR:=Jh (YS (fun n=>HGO.out.over (.inr rfl)))
    clear hlt hk
    go_wp2_with fail
    go_ret3
    exact ⟨by rw[HR.out];rfl,rfl⟩
end Go.Proofs.YtgmdimbiipemhaaGreatDoor
namespace Go.Proofs.YtgmdimbiipemhaaGreatDoor
def TB (b:List UInt8) (n:Nat) (l:List Bool) (at':Nat) (v:Bool):Prop :=
 X7 n false true b=(X7 (n - l.length) v (decide (at'=0)) (b.drop at')).map fun p=>(l++p.1,at'+p.2)
theorem TB.zero (b:List UInt8) (n:Nat):TB b n [] 0 false:=by
 unfold TB
 simp
theorem TB.step {b:List UInt8} {n:Nat} {l:List Bool} {p k:Nat} {v:Bool} (h:TB b n l p v) (hl:l.length<n) (hk:ZG (b.drop p)=some k) (h0:¬ (k=0∧p≠0)) (hkn:k≤n - l.length) :
  TB b n (l++List.replicate k v) (p+(Z6 k).length) (!v):=by
 unfold TB at h ⊢
 have hp:0<(Z6 k).length:=List.length_pos_iff.2 (VE k)
 have e:decide (p+(Z6 k).length=0)=false:=decide_eq_false (by omega)
 rw[h,Z0d (by omega) hk (by
  rintro (⟨h1,h2⟩|h1)
  ·exact h0 ⟨h1,of_decide_eq_false h2⟩
  ·omega),e,List.length_append,List.length_replicate,List.drop_drop,Option.map_map,Nat.sub_add_eq]
 congr 1
 funext q
 simp[Nat.add_assoc]
theorem TB.bad {b:List UInt8} {n:Nat} {l:List Bool} {p:Nat} {v:Bool} (h:TB b n l p v) (hl:l.length<n) (hb:ZG (b.drop p)=none∨∃ k,ZG (b.drop p)=some k∧((k=0∧p≠0)∨n - l.length<k)):X7 n false true b=none:=by
 unfold TB at h
 rw[h]
 rcases hb with hb|⟨k,hk,hb⟩
 ·rw[Z0I (by omega) hb];rfl
 ·rw[QX (by omega) hk (by
   rcases hb with ⟨h1,h2⟩|h1
   ·exact .inl ⟨h1,decide_eq_false h2⟩
   ·exact .inr h1)]
  rfl
theorem TB.done {b:List UInt8} {n:Nat} {l:List Bool} {p:Nat} {v:Bool} (h:TB b n l p v) (hl:l.length=n):X7 n false true b=some (l,p):=by
 unfold TB at h
 rw[h,hl,Nat.sub_self,Z0p]
 simp
def TR (b:List UInt8) (n:Nat) (l:List Int) (p:Nat):Prop :=
 Xg n none b=(Xg (n - l.length) l.getLast? (b.drop p)).map fun q=>(l++q.1,p+q.2)
theorem TR.zero (b:List UInt8) (n:Nat):TR b n [] 0:=by
 unfold TR
 simp
theorem Z4w (l:List Int) (k:Nat) (x:Int) (hk:k≠0):(l++List.replicate k x).getLast?=some x:=by
 obtain ⟨j,rfl⟩:∃ j,k=j+1:=⟨k - 1,by omega⟩
 rw[List.replicate_succ',←List.append_assoc,List.getLast?_concat]
theorem TR.step {b:List UInt8} {n:Nat} {l:List Int} {p k v:Nat} (h:TR b n l p) (hk:ZG (b.drop p)=some k) (hv:ZG (b.drop (p+(Z6 k).length))=some v) (h0:k≠0) (hkn:k≤n - l.length) (hp:l.getLast?≠some (Xf v)) :
  TR b n (l++List.replicate k (Xf v)) (p+(Z6 k).length+(Z6 v).length):=by
 unfold TR at h ⊢
 rw[h,TX hk (by rw[List.drop_drop];exact hv) h0 hkn hp,Z4w _ _ _ h0,List.length_append,List.length_replicate,List.drop_drop,Option.map_map,Nat.sub_add_eq,Nat.add_assoc]
 congr 1
 funext q
 simp[Nat.add_assoc]
theorem TR.bad {b:List UInt8} {n:Nat} {l:List Int} {p:Nat} (h:TR b n l p) (hl:l.length<n) (hb:ZG (b.drop p)=none∨∃ k,ZG (b.drop p)=some k∧(ZG (b.drop (p+(Z6 k).length))=none∨∃ v,ZG (b.drop (p+(Z6 k).length))=some v∧(k=0∨n - l.length<k∨l.getLast?=some (Xf v)))):Xg n none b=none:=by
 unfold TR at h
 rw[h]
 rcases hb with hb|⟨k,hk,hb|⟨v,hv,hb⟩⟩
 ·rw[Z0M (by omega) hb];rfl
 ·rw[Z03 (by omega) hk (by rw[List.drop_drop];exact hb)];rfl
 ·rw[Z0v (by omega) hk (by rw[List.drop_drop];exact hv) hb];rfl
theorem TR.done {b:List UInt8} {n:Nat} {l:List Int} {p:Nat} (h:TR b n l p) (hl:l.length=n):Xg n none b=some (l,p):=by
 unfold TR at h
 rw[h,hl,Nat.sub_self,Z0F]
 simp
end Go.Proofs.YtgmdimbiipemhaaGreatDoor
namespace Go.Proofs.YtgmdimbiipemhaaGreatDoor
open Go.RowKit Go.Deep
theorem Zl:(Tryz.prog.info? 5).map (·.size)=some 1:=by kernel_rfl
theorem Z20:(Tryz.prog.info? 3).map (·.size)=some 1:=by kernel_rfl
theorem QW:(Tryz.prog.info? 4).map (·.size)=some 1:=by kernel_rfl
theorem Wt (b o j:Nat):(⟨b,o,none⟩:Addr).add j=⟨b,o+j,none⟩:=by unfold Addr.add;split <;> simp_all
theorem ZW {P:Program} {α:Type} {ea:α→List Value} {q:Nat} {t e:TypeId} (ht:P.underlying t=some (.slice e)) (hsz:(P.info? e).map (·.size)=some q) (a:Option Addr) (n cap p:Nat) (hn:n≤cap) (hp:p≤n) :
  ∃ a' c',(∀ W,(Instr.slice t (.slice a n cap) (some (.int .i64 (p:Int))) none none).run P W=.ok (.slice a' (n - p) c') W)∧(∀ W (l:List α),l.length=n→Z0 ea q W (.slice a n cap) l→Z0 ea q W (.slice a' (n - p) c') (l.drop p))∧(∀ ad,a'=some ad→∃ ad0,a=some ad0∧ad.block=ad0.block):=by
 obtain ⟨i,hi,hq⟩:∃ i,P.info? e=some i∧i.size=q:=by
  cases h:P.info? e with
  | none=>rw[h] at hsz;cases hsz
  | some i=>rw[h] at hsz;exact ⟨i,rfl,Option.some.inj hsz⟩
 refine ⟨if cap=p then a else a.map (·.add (p*q)),cap - p,fun W=>?_,fun W l hl h=>?_,fun ad h=>?_⟩
 ·simp[Instr.slice,Instr.sliceBounds,Instr.sliceBound,asIntOf,run_underlying ht,sizeOf,typeInfo,hi,hq,hp,hn]
 ·obtain ⟨a2,c2,e2,h1,h2,h3⟩:=h
  cases e2
  refine ⟨_,_,by rw[List.length_drop],by rw[List.length_drop];omega,by omega,fun hne=>?_⟩
  have hlt:p<l.length:=by
   rcases Nat.lt_or_ge p l.length with h|h
   ·exact h
   ·exact absurd (List.drop_eq_nil_of_le (by omega)) hne
  have hl0:l≠[]:=by rintro rfl;simp at hne
  obtain ⟨b,off,rfl,h4⟩:=h3 hl0
  rw[if_neg (by omega)]
  refine ⟨b,off+p*q,by simp[Wt],fun i x hi' j u hj=>?_⟩
  rw[List.getElem?_drop] at hi'
  have h5:=h4 (p+i) x hi' j u hj
  rw[Nat.add_mul] at h5
  rw[show off+p*q+i*q+j=off+(p*q+i*q)+j by omega]
  exact h5
 ·split at h
  ·exact ⟨ad,h,rfl⟩
  ·cases a with
   | none=>cases h
   | some a0=>cases h;exact ⟨a0,rfl,by unfold Addr.add;split <;> rfl⟩
theorem XN {B:Nat} {w w':World} (h:Below B w w') {b o:Nat} {v:Value} (hc:w.cell? ⟨b,o,none⟩=some v) (hb:b<B):w'.cell? ⟨b,o,none⟩=some v:=(World.cell?_of_block (h.block b hb)).trans hc
theorem WR {B:Nat} {w w':World} (h:Below B w w'):Ext (fun k=>B≤k) w w':=⟨h.os,h.tape,h.output,h.size,fun k hk hn=>h.block k (by omega)⟩
theorem Z0.of1 {α:Type} {ea:α→List Value} {q:Nat} {w w':World} {bb oo n cap:Nat} {l:List α} (h:Z0 ea q w (.slice (some ⟨bb,oo,none⟩) n cap) l) (hb:∀ o u,w.cell? ⟨bb,o,none⟩=some u→w'.cell? ⟨bb,o,none⟩=some u):Z0 ea q w' (.slice (some ⟨bb,oo,none⟩) n cap) l:=by
 obtain ⟨a,c,e,h2,h3,h4⟩:=h
 cases e
 exact ⟨_,_,rfl,h2,h3,fun hl=>by obtain ⟨b,off,e5,h6⟩:=h4 hl;cases e5;exact ⟨_,_,rfl,fun i x hi j u hj=>hb _ _ (h6 i x hi j u hj)⟩⟩
theorem Z1P {base:Nat} {w0 w:World} {v vx:Value} {out ys:List Bool} (ho:Own btc 1 4 base w v out) (hb:Below base w0 w) (hx:Z0 btc 1 w vx ys) (hbase:base≤w.heap.size) (hl:out.length+ys.length≤1000000000000) :
  ∃ (s:Sl) (w':World),(Builtin.append_ #[75,75] 75 #[v,vx]).run Tryz.prog w=.ok (.slice s.a s.n s.cap) w'∧Own btc 1 4 base w' (.slice s.a s.n s.cap) (out++ys)∧Below base w0 w'∧base≤w'.heap.size:=by
 obtain ⟨i0,hi,hz0,hz1,hz2⟩:=info_parts SM
 obtain ⟨v',w',hr,ho2,hx2⟩:=Y5 (P:=Tryz.prog) 75 75 i0 _ 1 Tryz.underlying75 hi hz0 hz1 hz2 rfl (by omega) Xh SP ho hx (by unfold maxLen;omega) (by omega) hbase
 obtain ⟨s,rfl⟩:=ho2.sl
 exact ⟨s,w',hr,ho2,Ext.new hb hx2 (fun i hi _ e=>by have:=(ho.blk i e).1;omega) hbase,Nat.le_trans hbase hx2.size⟩
theorem Ra {base:Nat} {w0 w:World} {v vx:Value} {out ys:List Int} (ho:Own Zr 1 3 base w v out) (hb:Below base w0 w) (hx:Z0 Zr 1 w vx ys) (hbase:base≤w.heap.size) (hl:out.length+ys.length≤1000000000000) :
  ∃ (s:Sl) (w':World),(Builtin.append_ #[100,100] 100 #[v,vx]).run Tryz.prog w=.ok (.slice s.a s.n s.cap) w'∧Own Zr 1 3 base w' (.slice s.a s.n s.cap) (out++ys)∧Below base w0 w'∧base≤w'.heap.size:=by
 obtain ⟨i0,hi,hz0,hz1,hz2⟩:=info_parts Uc
 obtain ⟨v',w',hr,ho2,hx2⟩:=Y5 (P:=Tryz.prog) 100 100 i0 _ 8 Tryz.underlying100 hi hz0 hz1 hz2 rfl (by omega) ZF Vz ho hx (by unfold maxLen;omega) (by omega) hbase
 obtain ⟨s,rfl⟩:=ho2.sl
 exact ⟨s,w',hr,ho2,Ext.new hb hx2 (fun i hi _ e=>by have:=(ho.blk i e).1;omega) hbase,Nat.le_trans hbase hx2.size⟩
def Z76 (w:World) (b:List UInt8) (n:Nat) (e:Ending) (w':World):Prop:=(∃ l u v,X7 n false true b=some (l,u)∧e=.returned (.tuple #[v,.int .i64 (u:Nat),.int .i64 0])∧Own btc 1 4 w.heap.size w' v l∧Below w.heap.size w w') ∨
 (X7 n false true b=none∧e=.returned (.tuple #[.slice none 0 0,.int .i64 0,.int .i64 41])∧Below w.heap.size w w')
def Z6T (w:World) (b:List UInt8) (n:Nat) (e:Ending) (w':World):Prop:=(∃ l u v,Xg n none b=some (l,u)∧e=.returned (.tuple #[v,.int .i64 (u:Nat),.int .i64 0])∧Own Zr 1 3 w.heap.size w' v l∧Below w.heap.size w w') ∨
 (Xg n none b=none∧e=.returned (.tuple #[.slice none 0 0,.int .i64 0,.int .i64 41])∧Below w.heap.size w w')
def Wb (c:Nat):Nat:=if c≤16 then c else if c≤18 then c+3 else c+4
theorem Z65 {c d:Nat} (hc:c<21) (hd:d<21) (h:Wb c=Wb d):c=d:=by
 unfold Wb at h
 split at h <;> split at h <;> try split at h
 all_goals (try split at h) <;> omega
theorem Z37 {c:Nat} (hc:c<21):Wb c<26:=by unfold Wb;split <;> (try split) <;> omega
def dlt (c:Nat):Bool:=c == 0 || (decide (2≤c) && decide (c<10)) || c == 11
def fld (o:OpD):Nat→Int
 | 0=>o.id.n
 | 1=>o.id.r
 | 2=>o.d0
 | 3=>o.d1
 | 4=>o.d2
 | 5=>o.d3
 | 6=>o.d4
 | 7=>o.d5
 | 8=>o.d6
 | 9=>o.d7
 | 10=>o.kind
 | 11=>o.ref.n
 | 12=>o.ref.r
 | 13=>o.side
 | 14=>o.ch
 | 15=>o.under.n
 | 16=>o.under.r
 | 17=>o.fr.n
 | 18=>o.fr.r
 | 19=>o.tr.n
 | _=>o.tr.r
def OpD.withF (o:OpD) (f:Nat→Int):OpD:=⟨⟨f 0,f 1⟩,f 2,f 3,f 4,f 5,f 6,f 7,f 8,f 9,f 10,⟨f 11,f 12⟩,f 13,f 14,⟨f 15,f 16⟩,o.key,o.name,o.value,⟨f 17,f 18⟩,o.fa,⟨f 19,f 20⟩,o.ta⟩
theorem Z4L (o:OpD) (f:Nat→Int) {c:Nat} (hc:c<21):fld (o.withF f) c=f c:=by
 match c,hc with
 | 0,_=>rfl
 | 1,_=>rfl
 | 2,_=>rfl
 | 3,_=>rfl
 | 4,_=>rfl
 | 5,_=>rfl
 | 6,_=>rfl
 | 7,_=>rfl
 | 8,_=>rfl
 | 9,_=>rfl
 | 10,_=>rfl
 | 11,_=>rfl
 | 12,_=>rfl
 | 13,_=>rfl
 | 14,_=>rfl
 | 15,_=>rfl
 | 16,_=>rfl
 | 17,_=>rfl
 | 18,_=>rfl
 | 19,_=>rfl
 | 20,_=>rfl
 | n+21,h=>exact absurd h (by omega)
structure At (b off:Nat) (o:OpD) (g:Nat→Int) (W:World):Prop where
 num:∀ c,c<21→W.cell? ⟨b,off+Wb c,none⟩=some (.int .i64 (g c))
 key:W.cell? ⟨b,off+17,none⟩=some (.string o.key)
 name:W.cell? ⟨b,off+18,none⟩=some (.string o.name)
 value:W.cell? ⟨b,off+19,none⟩=some (.string o.value)
 fa:W.cell? ⟨b,off+22,none⟩=some (.bool o.fa)
 ta:W.cell? ⟨b,off+25,none⟩=some (.bool o.ta)
 free:∀ j,j<26→W.frozen? ⟨b,off+j,none⟩=false
theorem At.cells {b off:Nat} {o:OpD} {g:Nat→Int} {W:World} (h:At b off o g W):∀ j u,(o.withF g).cells[j]?=some u→W.cell? ⟨b,off+j,none⟩=some u:=by
 intro j u hj
 have hlt:=(List.getElem?_eq_some_iff.1 hj).1
 rw[OpD.len] at hlt
 match j,hlt with
 | 0,_=>cases hj;exact h.num 0 (by omega)
 | 1,_=>cases hj;exact h.num 1 (by omega)
 | 2,_=>cases hj;exact h.num 2 (by omega)
 | 3,_=>cases hj;exact h.num 3 (by omega)
 | 4,_=>cases hj;exact h.num 4 (by omega)
 | 5,_=>cases hj;exact h.num 5 (by omega)
 | 6,_=>cases hj;exact h.num 6 (by omega)
 | 7,_=>cases hj;exact h.num 7 (by omega)
 | 8,_=>cases hj;exact h.num 8 (by omega)
 | 9,_=>cases hj;exact h.num 9 (by omega)
 | 10,_=>cases hj;exact h.num 10 (by omega)
 | 11,_=>cases hj;exact h.num 11 (by omega)
 | 12,_=>cases hj;exact h.num 12 (by omega)
 | 13,_=>cases hj;exact h.num 13 (by omega)
 | 14,_=>cases hj;exact h.num 14 (by omega)
 | 15,_=>cases hj;exact h.num 15 (by omega)
 | 16,_=>cases hj;exact h.num 16 (by omega)
 | 17,_=>cases hj;exact h.key
 | 18,_=>cases hj;exact h.name
 | 19,_=>cases hj;exact h.value
 | 20,_=>cases hj;exact h.num 17 (by omega)
 | 21,_=>cases hj;exact h.num 18 (by omega)
 | 22,_=>cases hj;exact h.fa
 | 23,_=>cases hj;exact h.num 19 (by omega)
 | 24,_=>cases hj;exact h.num 20 (by omega)
 | 25,_=>cases hj;exact h.ta
theorem At.of_cells {b off:Nat} {o:OpD} {W:World} (h:∀ j u,o.cells[j]?=some u→W.cell? ⟨b,off+j,none⟩=some u) (hf:∀ j,j<26→W.frozen? ⟨b,off+j,none⟩=false):At b off o (fld o) W :=
 ⟨fun c hc=>h _ _ (by
  match c,hc with
  | 0,_=>rfl
  | 1,_=>rfl
  | 2,_=>rfl
  | 3,_=>rfl
  | 4,_=>rfl
  | 5,_=>rfl
  | 6,_=>rfl
  | 7,_=>rfl
  | 8,_=>rfl
  | 9,_=>rfl
  | 10,_=>rfl
  | 11,_=>rfl
  | 12,_=>rfl
  | 13,_=>rfl
  | 14,_=>rfl
  | 15,_=>rfl
  | 16,_=>rfl
  | 17,_=>rfl
  | 18,_=>rfl
  | 19,_=>rfl
  | 20,_=>rfl
  | n+21,h=>exact absurd h (by omega)),h 17 _ rfl,h 18 _ rfl,h 19 _ rfl,h 22 _ rfl,h 25 _ rfl,hf⟩
theorem At.of_same {b off:Nat} {o:OpD} {g:Nat→Int} {W W':World} (h:At b off o g W) (hc:∀ q,W'.cell? ⟨b,q,none⟩=W.cell? ⟨b,q,none⟩) (hf:∀ q,W'.frozen? ⟨b,q,none⟩=W.frozen? ⟨b,q,none⟩):At b off o g W' :=
 ⟨fun c h1=>(hc _).trans (h.num c h1),(hc _).trans h.key,(hc _).trans h.name,(hc _).trans h.value,(hc _).trans h.fa,(hc _).trans h.ta,fun j h1=>(hf _).trans (h.free j h1)⟩
theorem At.lt {b off:Nat} {o:OpD} {g:Nat→Int} {W:World} (h:At b off o g W):b<W.heap.size:=Zh h.key
theorem At.ext {b off:Nat} {o:OpD} {g:Nat→Int} {W W':World} {S:Nat→Prop} (h:At b off o g W) (hx:Ext S W W') (hn:¬ S b):At b off o g W' :=
 h.of_same (fun q=>hx.cell (p:=⟨b,q,none⟩) h.lt hn) (fun q=>hx.frozen (p:=⟨b,q,none⟩) h.lt hn)
theorem At.put {b off:Nat} {o:OpD} {g:Nat→Int} {W W':World} (h:At b off o g W) {c:Nat} (hc:c<21) {x:Int} (h1:W'.cell? ⟨b,off+Wb c,none⟩=some (.int .i64 x)) (h2:∀ q,q≠off+Wb c→W'.cell? ⟨b,q,none⟩=W.cell? ⟨b,q,none⟩) (h3:∀ q,W'.frozen? ⟨b,q,none⟩=W.frozen? ⟨b,q,none⟩) :
  At b off o (fun d=>if d=c then x else g d) W':=by
 have hne:∀ j,j=17∨j=18∨j=19∨j=22∨j=25→off+j≠off+Wb c:=fun j hj=>by
  unfold Wb
  split <;> (try split) <;> omega
 refine ⟨fun d hd=>?_,(h2 _ (hne _ (by omega))).trans h.key,(h2 _ (hne _ (by omega))).trans h.name,(h2 _ (hne _ (by omega))).trans h.value,(h2 _ (hne _ (by omega))).trans h.fa,(h2 _ (hne _ (by omega))).trans h.ta,fun j hj=>(h3 _).trans (h.free j hj)⟩
 by_cases e:d=c
 ·subst e;rw[if_pos rfl];exact h1
 ·rw[if_neg e,h2 _ (fun e2=>e (Z65 hd hc (by omega)))]
  exact h.num d hd
def stg (f:Nat→Int) (o:OpD) (c:Nat) (d:Nat):Int:=if d<c∧d≠10∧d≠13 then f d else fld o d
theorem Z5x (f:Nat→Int) (o:OpD):stg f o 0=fld o:=by funext d;unfold stg;rw[if_neg (by omega)]
theorem Z77 (f:Nat→Int) (o:OpD) (c:Nat):stg f o c c=fld o c:=by unfold stg;rw[if_neg (by omega)]
theorem Z6a (f:Nat→Int) (o:OpD) {c:Nat} (h1:c≠10) (h2:c≠13):(fun d=>if d=c then f c else stg f o c d)=stg f o (c+1):=by
 funext d
 unfold stg
 by_cases e:d=c
 ·subst e;rw[if_pos rfl,if_pos ⟨by omega,h1,h2⟩]
 ·rw[if_neg e]
  by_cases h:d<c∧d≠10∧d≠13
  ·rw[if_pos h,if_pos ⟨by omega,h.2⟩]
  ·rw[if_neg h,if_neg (by omega)]
theorem Z61 (f:Nat→Int) (o:OpD) {c:Nat} (h:c=10∨c=13):stg f o c=stg f o (c+1):=by
 funext d
 unfold stg
 by_cases h1:d<c∧d≠10∧d≠13
 ·rw[if_pos h1,if_pos ⟨by omega,h1.2⟩]
 ·rw[if_neg h1,if_neg (by omega)]
def Shp (pb:Nat) (W W':World):Prop:=∀ cs t,W.heap[pb]?=some (.cells cs t (0,0))→∃ cs',W'.heap[pb]?=some (.cells cs' t (0,0))∧cs'.size=cs.size
theorem Shp.same {pb:Nat} {W W':World} (h:W'.heap[pb]?=W.heap[pb]?):Shp pb W W':=fun cs t hc=>⟨cs,h.trans hc,rfl⟩
theorem Shp.trans {pb:Nat} {W W' W'':World} (h:Shp pb W W') (k:Shp pb W' W''):Shp pb W W'':=fun cs t hc=>by
 obtain ⟨c1,h1,h2⟩:=h cs t hc
 obtain ⟨c2,h3,h4⟩:=k c1 t h1
 exact ⟨c2,h3,h4.trans h2⟩
theorem Shp.set (W:World) (pb po:Nat) (v:Value):Shp pb W (W.setCell ⟨pb,po,none⟩ v):=fun cs t hc=>⟨_,heap_setCell_same W pb po cs t v hc,by rw[Array.size_setIfInBounds]⟩
def Rst (b off:Nat) (W W':World):Prop:=∀ cs t,W.heap[b]?=some (.cells cs t (0,0))→∃ cs',W'.heap[b]?=some (.cells cs' t (0,0))∧cs'.size=cs.size∧∀ q,(q<off∨off+26≤q)→cs'[q]?=cs[q]?
theorem Rst.refl (b off:Nat) (W:World):Rst b off W W:=fun cs t hc=>⟨cs,hc,rfl,fun _ _=>rfl⟩
theorem Rst.trans {b off:Nat} {W W' W'':World} (h:Rst b off W W') (k:Rst b off W' W''):Rst b off W W'':=fun cs t hc=>by
 obtain ⟨c1,h1,h2,h5⟩:=h cs t hc
 obtain ⟨c2,h3,h4,h6⟩:=k c1 t h1
 exact ⟨c2,h3,h4.trans h2,fun q hq=>(h6 q hq).trans (h5 q hq)⟩
theorem Rst.same {b off:Nat} {W W':World} (h:W'.heap[b]?=W.heap[b]?):Rst b off W W':=fun cs t hc=>⟨cs,h.trans hc,rfl,fun _ _=>rfl⟩
theorem Rst.of_shp {b off po:Nat} {W W':World} (h:Shp b W W') (hq:∀ q,q≠po→W'.cell? ⟨b,q,none⟩=W.cell? ⟨b,q,none⟩) (h1:off≤po) (h2:po<off+26):Rst b off W W':=fun cs t hc=>by
 obtain ⟨c1,h3,h4⟩:=h cs t hc
 refine ⟨c1,h3,h4,fun q hh=>?_⟩
 have h5:=hq q (by omega)
 unfold World.cell? at h5
 rw[h3,hc] at h5
 exact h5
theorem Rst.set (W:World) {b off po:Nat} (v:Value) (h1:off≤po) (h2:po<off+26):Rst b off W (W.setCell ⟨b,po,none⟩ v):=fun cs t hc =>
 ⟨_,heap_setCell_same W b po cs t v hc,by rw[Array.size_setIfInBounds],fun q hh=>by rw[Array.getElem?_setIfInBounds_ne (by omega)]⟩
def SQ (P:Program) (gf:Nat) (lb:Array Value) (f fl:Nat→Int) (J:Nat→(Nat→Prop)→World→Prop):Prop :=
 ∀ (c:Nat) (A:Nat→Prop) (W:World) (pb po:Nat),c<21→J c A W→W.cell? ⟨pb,po,none⟩=some (.int .i64 (fl c))→W.frozen? ⟨pb,po,none⟩=false→A pb →
  Calls P gf (#[.pointer (some ⟨pb,po,none⟩),.bool (dlt c)]++lb) W fun e W'=>(∃ v,e=.returned v)∧J (c+1) A W'∧W'.cell? ⟨pb,po,none⟩=some (.int .i64 (f c)) ∧
   (∀ q,q≠po→W'.cell? ⟨pb,q,none⟩=W.cell? ⟨pb,q,none⟩)∧(∀ q,W'.frozen? ⟨pb,q,none⟩=W.frozen? ⟨pb,q,none⟩)∧Ext (fun k=>¬ A k∨k=pb) W W'∧Shp pb W W'
def JOK (b:Nat) (J:Nat→(Nat→Prop)→World→Prop):Prop:=∀ c A A' W W',J c A W→Ext (fun k=>k=b) W W'→(∀ k,A' k→A k∨(W.heap.size≤k∧k<W'.heap.size))→A b→J c A' W'
theorem Uy {l:List Int} (h:∀ x∈l,-9223372036854775808≤x∧x≤9223372036854775807):∀ x∈ZV l,-9223372036854775808≤x∧x≤9223372036854775807:=by
 have key:∀ (l:List Int) (p:Int),∀ x∈Xq p l,-9223372036854775808≤x∧x≤9223372036854775807:=by
  intro l
  induction l with
  | nil=>intro p x hx;simp[Xq] at hx
  | cons y l ih =>
   intro p x hx
   rw[Xq] at hx
   rcases List.mem_cons.1 hx with rfl|hx
   ·exact Z1R _
   ·exact ih y x hx
 intro x hx
 cases l with
 | nil=>simp[ZV] at hx
 | cons y l =>
  rw[ZV] at hx
  rcases List.mem_cons.1 hx with rfl|hx
  ·exact h _ (by simp)
  ·exact key _ _ _ hx
theorem XD:∀ l:List Int,(ZV l).length=l.length:=by
 have key:∀ (l:List Int) (p:Int),(Xq p l).length=l.length:=by
  intro l
  induction l with
  | nil=>intro p;rfl
  | cons y l ih=>intro p;rw[Xq,List.length_cons,ih,List.length_cons]
 intro l
 cases l with
 | nil=>rfl
 | cons y l=>rw[ZV,List.length_cons,key,List.length_cons]
end Go.Proofs.YtgmdimbiipemhaaGreatDoor
namespace Go.Proofs.YtgmdimbiipemhaaGreatDoor
def txt (o:OpD):Nat→ByteArray
 | 0=>o.key
 | 1=>o.name
 | _=>o.value
def tru (o:OpD):Nat→Bool
 | 0=>o.fa
 | _=>o.ta
def Ys (l:List OpD) (c:Nat):List Int:=l.map fun o=>fld o c
def Vo (l:List OpD) (c:Nat):List UInt8:=if dlt c then Zc (ZV (Ys l c)) else Zc (Ys l c)
def ZC (l:List OpD) (c:Nat):List Bool:=l.map fun o=>tru o c
def Zv (l:List OpD) (c:Nat):List Int:=l.map fun o=>((txt o c).size:Int)
def ZB (l:List OpD) (c:Nat):List UInt8:=l.flatMap fun o=>(txt o c).data.toList
def Yc (l:List OpD) (n:Nat):List UInt8:=(List.range n).flatMap (Vo l)
def YI (l:List OpD) (n:Nat):List UInt8:=(List.range n).flatMap fun c=>XG (ZC l c)
def Xs (l:List OpD) (n:Nat):List UInt8:=(List.range n).flatMap fun c=>Zc (Zv l c)++ZB l c
def XM (l:List OpD):List UInt8:=Z6 l.length++Yc l 21++YI l 2++Xs l 3
theorem Vs (l:List OpD) (n:Nat):Yc l (n+1)=Yc l n++Vo l n:=by simp[Yc,List.range_succ]
theorem Vj (l:List OpD) (n:Nat):YI l (n+1)=YI l n++XG (ZC l n):=by simp[YI,List.range_succ]
theorem We (l:List OpD) (n:Nat):Xs l (n+1)=Xs l n++(Zc (Zv l n)++ZB l n):=by simp[Xs,List.range_succ]
def OpD.wf (o:OpD):Prop:=(o.key.size≤9223372036854775807∧o.name.size≤9223372036854775807∧o.value.size≤9223372036854775807)∧∀ c,c<21→-9223372036854775808≤fld o c∧fld o c≤9223372036854775807
theorem OpD.right_txt {o:OpD} (h:o.right=true) (c:Nat):(txt o c).size≤64:=by
 have hk:o.kindOk=true:=by
  unfold OpD.right at h
  simp only[Bool.and_eq_true] at h
  exact h.2.2.2
 have hn:∀ {s:ByteArray},Wc s=true→s.size≤64:=fun h=>by
  unfold Wc at h
  rw[Bool.and_eq_true] at h
  have:=of_decide_eq_true h.1
  omega
 have hv:∀ {s:ByteArray},XV s=true→s.size≤64:=fun h=>by
  unfold XV at h
  rw[Bool.and_eq_true] at h
  have:=of_decide_eq_true h.1
  omega
 have hkey:∀ {s:ByteArray},Wx s=true→s.size≤64:=fun h=>by
  unfold Wx at h
  rw[Bool.and_eq_true,Bool.and_eq_true] at h
  have:=of_decide_eq_true h.1.1
  omega
 have h0:ZE.size≤64:=by show 0≤64;omega
 have fin:o.key.size≤64∧o.name.size≤64∧o.value.size≤64:=by
  unfold OpD.kindOk at hk
  split at hk
  ·rw[Bool.and_eq_true] at hk
   have e:=of_decide_eq_true hk.2
   rw[←e]
   exact ⟨h0,h0,h0⟩
  ·split at hk
   ·rw[Bool.and_eq_true] at hk
    have e:=of_decide_eq_true hk.2
    rw[←e]
    exact ⟨h0,h0,h0⟩
   ·split at hk
    ·rw[Bool.and_eq_true] at hk
     have e:=of_decide_eq_true hk.2
     have h1:=hk.1
     unfold OpD.okM at h1
     rw[Bool.and_eq_true] at h1
     have h2:=hkey h1.2
     refine ⟨h2,?_,?_⟩ <;> (rw[←e];exact h0)
    ·split at hk
     ·rw[Bool.and_eq_true] at hk
      have e:=of_decide_eq_true hk.2
      have h1:=hk.1
      unfold OpD.okS at h1
      rw[Bool.and_eq_true,Bool.and_eq_true] at h1
      exact ⟨by rw[←e];exact h0,hn h1.1.2,hv h1.2⟩
     ·split at hk
      ·rw[Bool.and_eq_true] at hk
       have e:=of_decide_eq_true hk.2
       have h1:=hk.1
       unfold OpD.okK at h1
       rw[Bool.and_eq_true,Bool.and_eq_true] at h1
       exact ⟨by rw[←e];exact h0,hn h1.1.2,hv h1.2⟩
      ·cases hk
 unfold txt
 split
 ·exact fin.1
 ·exact fin.2.1
 ·exact fin.2.2
end Go.Proofs.YtgmdimbiipemhaaGreatDoor
namespace Go.Proofs.YtgmdimbiipemhaaGreatDoor
open Go.RowKit Go.Deep
theorem Z0y:∀ (l:List Int) (p:Int),(Wf p l).length=l.length
 | [],_=>rfl
 | x :: l,p=>by rw[Wf,List.length_cons,Z0y l,List.length_cons]
theorem Sa (l:List Int):(YM l).length=l.length:=by
 cases l with
 | nil=>rfl
 | cons x l=>rw[YM,List.length_cons,Z0y,List.length_cons]
theorem QZ:∀ (l:List Int) (p:Int) (j:Nat) (x y:Int),l[j]?=some x→(p :: Wf p l)[j]?=some y→(Wf p l)[j]?=some (Yl (x+y))
 | [],_,_,_,_,h,_=>by simp at h
 | z :: l,p,0,x,y,h,h2=>by
  simp at h h2
  subst h h2
  rw[Wf];rfl
 | z :: l,p,j+1,x,y,h,h2=>by
  rw[Wf] at h2 ⊢
  rw[List.getElem?_cons_succ] at h h2 ⊢
  exact QZ l _ j x y h h2
theorem Z56 {l:List Int} {j:Nat} {x y:Int} (hx:l[j+1]?=some x) (hy:(YM l)[j]?=some y):(YM l)[j+1]?=some (Yl (x+y)):=by
 cases l with
 | nil=>simp at hx
 | cons z l =>
  rw[YM] at hy ⊢
  rw[List.getElem?_cons_succ] at hx ⊢
  exact QZ l z j x y hx hy
theorem Qe:∀ (l:List Int) (p:Int) (j:Nat) (x y:Int),l[j]?=some x→(p :: l)[j]?=some y→(Xq p l)[j]?=some (Yl (x - y))
 | [],_,_,_,_,h,_=>by simp at h
 | z :: l,p,0,x,y,h,h2=>by
  simp at h h2
  subst h h2
  rw[Xq];rfl
 | z :: l,p,j+1,x,y,h,h2=>by
  rw[Xq]
  rw[List.getElem?_cons_succ] at h h2 ⊢
  exact Qe l _ j x y h h2
theorem Z3z {l:List Int} {j:Nat} {x y:Int} (hx:l[j+1]?=some x) (hy:l[j]?=some y):(ZV l)[j+1]?=some (Yl (x - y)):=by
 cases l with
 | nil=>simp at hx
 | cons z l =>
  rw[ZV]
  rw[List.getElem?_cons_succ] at hx ⊢
  exact Qe l z j x y hx hy
def Xn (a b:List Int) (i:Nat):List Int:=a.take i++b.drop i
theorem Z0H (a b:List Int):Xn a b 0=b:=by simp[Xn]
theorem Ri {a b:List Int} (h:a.length=b.length) {i:Nat} (hi:i≤b.length):(Xn a b i).length=b.length:=by simp[Xn];omega
theorem Z1e {a b:List Int} (h:a.length=b.length):Xn a b b.length=a:=by simp[Xn,←h]
theorem Te {a b:List Int} (h:a.length=b.length) {i:Nat} {x:Int} (hx:b[i]?=some x):(Xn a b i)[i]?=some x:=by
 have hi:=(List.getElem?_eq_some_iff.1 hx).1
 unfold Xn
 rw[List.getElem?_append_right (by simp;omega),List.length_take,Nat.min_eq_left (by omega),Nat.sub_self,List.getElem?_drop]
 exact hx
theorem Z2R {a b:List Int} (h:a.length=b.length) {i j:Nat} {x:Int} (hx:a[j]?=some x) (hj:j<i):(Xn a b i)[j]?=some x:=by
 have hi:=(List.getElem?_eq_some_iff.1 hx).1
 unfold Xn
 rw[List.getElem?_append_left (by simp;omega),List.getElem?_take,if_pos hj]
 exact hx
theorem Sh {a b:List Int} (h:a.length=b.length) {i:Nat} {x:Int} (hx:a[i]?=some x):(Xn a b i).set i x=Xn a b (i+1):=by
 have hi:=(List.getElem?_eq_some_iff.1 hx).1
 unfold Xn
 rw[List.set_append_right _ _ (by simp;omega),List.length_take,Nat.min_eq_left (by omega),Nat.sub_self,List.take_add_one,hx,Option.toList_some,List.append_assoc]
 congr 1
 have:b.drop i=b[i] :: b.drop (i+1):=List.drop_eq_getElem_cons (by omega)
 rw[this]
 rfl
theorem Z0x {a b:List Int} (h:a.length=b.length) {i:Nat} {x:Int} (hx:a[i]?=some x) (hb:b[i]?=some x):Xn a b i=Xn a b (i+1):=by
 rw[←Sh h hx]
 apply List.ext_getElem?
 intro k
 rw[List.getElem?_set]
 split
 ·rename_i e
  subst e
  rw[Te h hb]
  have hi:=(List.getElem?_eq_some_iff.1 hb).1
  rw[if_pos (by rw[Ri h (by omega)];exact hi)]
 ·rfl
theorem Z3U {l:List Int} {x:Int} (h:l[0]?=some x):(YM l)[0]?=some x:=by
 cases l with
 | nil=>simp at h
 | cons y l=>rw[YM];simpa using h
theorem Z2H {l:List Int} {x:Int} (h:l[0]?=some x):(ZV l)[0]?=some x:=by
 cases l with
 | nil=>simp at h
 | cons y l=>rw[ZV];simpa using h
theorem U8 (v:Value) (b:List UInt8) (n:Nat) (w:World) (h:Z0 u8c 1 w v b) (hn0:n≤65536):Calls Tryz.prog 153 #[v,.int .i64 n] w fun e w'=>Z6T w b n e w':=by
 obtain ⟨a,cap,rfl,hcap,hmax,-⟩:=id h
 unfold maxLen at hmax
 have HH:=Lib.hid h
 clear h
 have hn1:¬ (n:Int)<0:=by omega
 have hn2:¬ (65536:Int)<(n:Int):=by omega
 go_enter Tryz.func153,Tryz.ntmps153
 go_wp2_with fail
 go_loopg [7,8] n (fun g lv pv wr=>∃ (s:Sl) (l:List Int) (p:Nat),g=n - l.length∧lv=.slice s.a s.n s.cap∧pv=.int .i64 p∧s.n=l.length∧l.length≤n∧p≤b.length∧Hid (TR b n l p)∧Hid (Own Zr 1 3 w.heap.size wr (.slice s.a s.n s.cap) l∧Below w.heap.size w wr))
 case atStart=>exact ⟨⟨none,0,0⟩,[],0,rfl,rfl,rfl,rfl,Nat.zero_le _,Nat.zero_le _,Jh (TR.zero b n),Lib.hid ⟨Own.nil,Below.refl _ _⟩⟩
 case round =>
  obtain ⟨⟨sa,sn,sc⟩,l,p,hg,rfl,rfl,hsn,hln,hpb,HT,HU⟩:=hrel
  dsimp only at hsn HU ⊢
  subst hsn
  have HG:=Lib.hid hg
  clear hg
  by_cases hlt:l.length<n
  ·have hl1:(l.length:Int)<(n:Int):=by omega
   obtain ⟨a1,c1,hsl,hS1,-⟩:=ZW (P:=Tryz.prog) (ea:=u8c) Tryz.underlying22 Zl a b.length cap p hcap hpb
   have HS:=Jh (hS1 wr b rfl (HH.out.below HU.out.2))
   clear hS1
   go_wp2_with fail
   refine (V7 _ _ _ HS.out).mono ?_
   rintro e w5 ⟨rfl,e5⟩
   rw[←e5]
   clear e5 w5
   cases hk:ZG (b.drop p) with
   | none =>
    have hr:XF (b.drop p)=.tuple #[.int .u64 0,.int .i64 0,.int .i64 31]:=by unfold XF;rw[hk]
    have HD:=Jh (HT.out.bad hlt (.inl hk))
    rw[hr]
    have HR:=Lib.hid hr
    clear hk hr
    have hp00:(p:Int)+0=(p:Int):=by omega
    go_wp2_with fail
    refine (V7 _ _ _ HS.out).mono ?_
    rintro e w5 ⟨rfl,e5⟩
    rw[←e5,HR.out]
    clear e5 w5 HS hsl
    go_wp2_with fail
    refine (QG 0 _ (by omega)).mono ?_
    rintro e w5 ⟨rfl,e5⟩
    rw[←e5]
    clear e5 w5
    go_wp2_with fail
    go_ret3
    exact .inr ⟨HD.out,rfl,HU.out.2⟩
   | some k =>
    have hr:XF (b.drop p)=.tuple #[.int .u64 k,.int .i64 (Z6 k).length,.int .i64 0]:=by unfold XF;rw[hk]
    have hk64:=(ZQ.1 hk).1
    have hqp:=(ZQ.1 hk).2.length_le
    rw[List.length_drop] at hqp
    have hq0:0<(Z6 k).length:=List.length_pos_iff.2 (VE k)
    rw[hr]
    obtain ⟨q,hq⟩:=Je ((Z6 k).length)
    rw[hq] at hqp hq0 ⊢
    obtain ⟨a2,c2,hsl2,hS2,-⟩:=ZW (P:=Tryz.prog) (ea:=u8c) Tryz.underlying22 Zl a b.length cap (p+q) hcap (by omega)
    have HS2:=Jh (hS2 wr b rfl (HH.out.below HU.out.2))
    simp only[Int.natCast_add] at hsl2
    clear hS2 hr HS hsl
    go_wp2_with fail
    refine (V7 _ _ _ HS2.out).mono ?_
    rintro e w5 ⟨rfl,e5⟩
    rw[←e5]
    clear e5 w5 HS2
    cases hv:ZG (b.drop (p+q)) with
    | none =>
     have hr:XF (b.drop (p+q))=.tuple #[.int .u64 0,.int .i64 0,.int .i64 31]:=by unfold XF;rw[hv]
     have HD:=Jh (HT.out.bad hlt (.inr ⟨k,hk,.inl (by rw[hq];exact hv)⟩))
     rw[hr]
     clear hk hr hv hsl2 hq
     go_wp2_with fail
     refine (QG 0 _ (by omega)).mono ?_
     rintro e w5 ⟨rfl,e5⟩
     rw[←e5]
     clear e5 w5
     go_wp2_with fail
     go_ret3
     exact .inr ⟨HD.out,rfl,HU.out.2⟩
    | some v =>
     have hr:XF (b.drop (p+q))=.tuple #[.int .u64 v,.int .i64 (Z6 v).length,.int .i64 0]:=by unfold XF;rw[hv]
     have hv64:=(ZQ.1 hv).1
     have hqp2:=(ZQ.1 hv).2.length_le
     rw[List.length_drop] at hqp2
     rw[hr]
     have HBAD:=Jh (fun h=>HT.out.bad hlt (.inr ⟨k,hk,.inr ⟨v,by rw[hq];exact hv,h⟩⟩))
     have HSTEP:=Jh (fun h0 h1 h2=>HT.out.step hk (by rw[hq];exact hv) h0 h1 h2)
     rw[hq] at HSTEP
     obtain ⟨q2,hq2⟩:=Je ((Z6 v).length)
     rw[hq2] at hqp2 HSTEP ⊢
     obtain ⟨x,hx⟩:=Je (Xf v)
     rw[hx] at HBAD HSTEP
     have hQ:0<q∧p+q+q2≤b.length:=⟨hq0,by omega⟩
     have HQ:=Lib.hid hQ
     have hxin:=Z6N hv64
     rw[hx] at hxin
     clear hr hsl2 hk hv hq hq2 hqp hqp2 hq0 hQ
     go_wp2_with fail
     refine (QG v _ hv64).mono ?_
     rintro e w5 ⟨rfl,e5⟩
     rw[←e5,hx]
     clear e5 w5 hx
     obtain ⟨r,hrr⟩:∃ r:Nat,r=n - l.length:=⟨_,rfl⟩
     have hsub:(n:Int) - (l.length:Int)=(r:Int):=by omega
     by_cases hz:k=0
     ·have HD:=Jh (HBAD.out (.inl hz))
      have hz1:((k:Int) == 0)=true:=by rw[hz];rfl
      clear hz hrr hsub HBAD HSTEP
      go_wp2_with fail
      go_ret3
      exact .inr ⟨HD.out,rfl,HU.out.2⟩
     ·have hz1:((k:Int) == 0)=false:=by simpa using hz
      by_cases hkn:r<k
      ·have hk1:(r:Int)<(k:Int):=by omega
       have HD:=Jh (HBAD.out (.inr (.inl (by omega))))
       have hdk:decide (n - l.length<k)=true:=decide_eq_true (by omega)
       clear hz hkn hrr HBAD HSTEP
       go_wp2_with fail
       go_ret3
       exact .inr ⟨HD.out,rfl,HU.out.2⟩
      ·have hk1:¬ (r:Int)<(k:Int):=by omega
       have hdk:decide (n - l.length<k)=false:=decide_eq_false (by omega)
       have hk65:k≤65536:=by omega
       have HKN:Hid (k≤n - l.length∧k≠0):=Lib.hid ⟨by omega,hz⟩
       have hpq:IntKind.i64.wrap ((p:Int)+((q:Int)+(q2:Int)))=((p+q+q2:Nat):Int):=by rw[IntWalk.i64_in _ (by have:=HQ.out;omega)];omega
       have HC:=Jh (Z3w x wr.heap.size 1 k (wr.alloc (.cells #[.int .i64 x] 3)) (Th wr x 0 _ rfl) hk65 (Nat.le_refl _))
       by_cases hl0:l.length=0
       ·have hl2:¬ (0:Int)<(l.length:Int):=by omega
        have hl3:decide (0<l.length)=false:=decide_eq_false (by omega)
        have HNX:=Jh (HSTEP.out HKN.out.2 HKN.out.1 (by rw[List.eq_nil_of_length_eq_zero hl0];simp))
        clear hz hkn hrr hl0 HBAD HSTEP
        have hqs:=HQ.out.2
        clear hpq
        go_wp2_with fail
        refine HC.out.mono ?_
        rintro e w6 ⟨v6,rfl,hown6,b6⟩
        have hb0:Below w.heap.size w (wr.alloc (.cells #[.int .i64 x] 3)):=HU.out.2.alloc HU.out.2.size _
        obtain ⟨⟨ta,tn,tc⟩,w7,hr7,own7,b7,hsz7⟩:=Ra ((HU.out.1.alloc _).below1 b6) (hb0.trans (b6.mono hb0.size)) (hown6.slice ZF) (Nat.le_trans hb0.size b6.size) (by rw[List.length_replicate];omega)
        have HX:=Jh (And.intro own7 b7)
        have HTN:=Jh (own7.nlen ZF).1
        clear own7 b7 hown6 b6 hb0 HC hsz7
        go_wp2_with (at_builtin;refine Lib.wpList_append_run _ rfl _ _ _ _ rfl _ _ rfl rfl _ _ hr7 ?_)
        go_roundg (n - (l++List.replicate k x).length)
        case measure=>rw[HG.out,List.length_append,List.length_replicate];have h1:=HKN.out;omega
        case rel=>exact ⟨⟨ta,tn,tc⟩,l++List.replicate k x,p+q+q2,rfl,rfl,by simp;omega,HTN.out,by rw[List.length_append,List.length_replicate];have h1:=HKN.out.1;omega,HQ.out.2,HNX,HX⟩
       ·obtain ⟨j,hj⟩:∃ j,l.length=j+1:=⟨l.length - 1,by omega⟩
        obtain ⟨y,hy⟩:∃ y,l[j]?=some y:=⟨_,List.getElem?_eq_getElem (by omega)⟩
        have hlast:l.getLast?=some y:=by rw[List.getLast?_eq_getElem?,hj];exact hy
        obtain ⟨bb,oo,rfl,c0⟩:=(HU.out.1.slice ZF).at1 hy rfl
        have hl2:(0:Int)<(l.length:Int):=by omega
        have hl3:decide (0<l.length)=true:=decide_eq_true (by omega)
        have hj1:(l.length:Int) - 1=(j:Int):=by omega
        have hj2:l.length - 1=j:=by omega
        have hj3:(j:Int)<(l.length:Int):=by omega
        clear hj
        by_cases hyx:y=x
        ·have HD:=Jh (HBAD.out (.inr (.inr (by rw[hlast,hyx]))))
         have hyy:(y == x)=true:=by simpa using hyx
         clear hz hkn hrr hl0 HBAD HSTEP hlast hy hyx HC
         go_wp2_with fail
         go_ret3
         exact .inr ⟨HD.out,rfl,HU.out.2⟩
        ·have HNX:=Jh (HSTEP.out HKN.out.2 HKN.out.1 (by rw[hlast];exact fun e=>hyx (Option.some.inj e)))
         have hyy:(y == x)=false:=by simpa using hyx
         clear hz hkn hrr hl0 HBAD HSTEP hlast hy hyx
         have hqs:=HQ.out.2
         clear hpq
         go_wp2_with fail
         refine HC.out.mono ?_
         rintro e w6 ⟨v6,rfl,hown6,b6⟩
         have hb0:Below w.heap.size w (wr.alloc (.cells #[.int .i64 x] 3)):=HU.out.2.alloc HU.out.2.size _
         obtain ⟨⟨ta,tn,tc⟩,w7,hr7,own7,b7,hsz7⟩:=Ra ((HU.out.1.alloc _).below1 b6) (hb0.trans (b6.mono hb0.size)) (hown6.slice ZF) (Nat.le_trans hb0.size b6.size) (by rw[List.length_replicate];omega)
         have HX:=Jh (And.intro own7 b7)
         have HTN:=Jh (own7.nlen ZF).1
         clear own7 b7 hown6 b6 hb0 HC hsz7
         go_wp2_with (at_builtin;refine Lib.wpList_append_run _ rfl _ _ _ _ rfl _ _ rfl rfl _ _ hr7 ?_)
         go_roundg (n - (l++List.replicate k x).length)
         case measure=>rw[HG.out,List.length_append,List.length_replicate];have h1:=HKN.out;omega
         case rel=>exact ⟨⟨ta,tn,tc⟩,l++List.replicate k x,p+q+q2,rfl,rfl,by simp;omega,HTN.out,by rw[List.length_append,List.length_replicate];have h1:=HKN.out.1;omega,HQ.out.2,HNX,HX⟩
  ·have hll:l.length=n:=by omega
   have hl1:¬ (l.length:Int)<(n:Int):=by omega
   have HD:=Jh (HT.out.done hll)
   clear hll hlt
   go_wp2_with fail
   go_ret3
   exact .inl ⟨l,p,_,HD.out,rfl,HU.out.1,HU.out.2⟩
noncomputable def UT (n:Nat) (b:List UInt8):Option (List Int × Nat):=(Xg n none b).map fun p=>(YM p.1,p.2)
def Z6X (w:World) (b:List UInt8) (n:Nat) (e:Ending) (w':World):Prop:=(∃ l u v,UT n b=some (l,u)∧e=.returned (.tuple #[v,.int .i64 (u:Nat),.int .i64 0])∧Own Zr 1 3 w.heap.size w' v l∧Below w.heap.size w w') ∨
 (UT n b=none∧e=.returned (.tuple #[.slice none 0 0,.int .i64 0,.int .i64 41])∧Below w.heap.size w w')
theorem Qx (v:Value) (b:List UInt8) (n:Nat) (w:World) (h:Z0 u8c 1 w v b) (hn0:n≤65536):Calls Tryz.prog 154 #[v,.int .i64 n] w fun e w'=>Z6X w b n e w':=by
 have HC:=Jh (U8 v b n w h hn0)
 clear h
 go_enter Tryz.func154,Tryz.ntmps154
 go_wp2_with fail
 refine HC.out.mono ?_
 rintro e w5 (⟨d,u,v5,hd,rfl,hown,hb⟩|⟨hd,rfl,hb⟩)
 ·obtain ⟨⟨sa,sn,sc⟩,e5⟩:=hown.sl
  dsimp only at e5
  subst e5
  obtain rfl:=(hown.nlen ZF).1
  have hdl:=(Rm n (by omega) none b d u).1 hd
  have hdn:d.length≤65536:=by rcases hdl with ⟨h,_⟩|⟨_,rfl,_⟩;omega;simp
  have HD:=Jh (show UT n b=some (YM d,u) from by unfold UT;rw[hd];rfl)
  have hsl:=Sa d
  have HSL:=Lib.hid hsl
  have HU:=Jh (And.intro hown hb)
  clear hd hdl hown hb hsl HC hn0
  go_wp2_with fail
  go_loopg [20,10] d.length (fun g kv iv wr=>∃ i:Nat,g=d.length - i∧kv=.int .i64 i∧i≤d.length∧Hid (Own Zr 1 3 w.heap.size wr (.slice sa d.length sc) (Xn (YM d) d i)∧Below w.heap.size w wr))
  case atStart=>exact ⟨0,rfl,rfl,Nat.zero_le _,by rw[Z0H];exact HU⟩
  case round =>
   clear HU
   obtain ⟨i,hg,rfl,hil,HU⟩:=hrel
   have HG:=Lib.hid hg
   clear hg
   by_cases hlt:i<d.length
   ·have hi1:(i:Int)<(d.length:Int):=by omega
    obtain ⟨x,hx⟩:∃ x,d[i]?=some x:=⟨_,List.getElem?_eq_getElem hlt⟩
    cases i with
    | zero =>
     have HN:Hid (Own Zr 1 3 w.heap.size wr (.slice sa d.length sc) (Xn (YM d) d 1)∧Below w.heap.size w wr):=Jh (by rw[←Z0x HSL.out (Z3U hx) hx];exact HU.out)
     clear hx HU
     go_wp2_with fail
     go_roundg (d.length - 1)
     case measure=>rw[HG.out];omega
     case rel=>exact ⟨1,rfl,by simp,by omega,HN⟩
    | succ j =>
     obtain ⟨y,hy⟩:∃ y,(YM d)[j]?=some y:=⟨_,List.getElem?_eq_getElem (by rw[HSL.out];omega)⟩
     have hs:=Z56 hx hy
     obtain ⟨z,hz⟩:∃ z,z=Yl (x+y):=⟨_,rfl⟩
     rw[←hz] at hs
     have hml:=Ri HSL.out (show j+1≤d.length by omega)
     have HO:=HU.out.1
     rw[←hml] at HO
     obtain ⟨bb,hsa⟩:∃ bb,sa=some ⟨bb,0,none⟩:=by
      rcases HO.eq_slice with ⟨e,h⟩|⟨g,c,e,_⟩
      ·rw[h] at hml;simp at hml;omega
      ·cases e;exact ⟨g,rfl⟩
     subst hsa
     have c1:wr.cell? ⟨bb,j+1,none⟩=some (.int .i64 x):=by have:=HO.cellAt ZF (Te HSL.out hx) (j:=0) rfl;rwa [Nat.mul_one,Nat.add_zero] at this
     have c0:wr.cell? ⟨bb,j,none⟩=some (.int .i64 y):=by have:=HO.cellAt ZF (Z2R HSL.out hy (Nat.lt_succ_self j)) (j:=0) rfl;rwa [Nat.mul_one,Nat.add_zero] at this
     have f1:=HO.free (j+1)
     have HN:Hid (Own Zr 1 3 w.heap.size (wr.drew.setCell ⟨bb,j+1,none⟩ (.int .i64 z)) (.slice (some ⟨bb,0,none⟩) d.length sc) (Xn (YM d) d (j+2))∧Below w.heap.size w (wr.drew.setCell ⟨bb,j+1,none⟩ (.int .i64 z))):=Lib.hid ⟨by
      have h1:=Own.setAt (show Own Zr 1 3 w.heap.size wr.drew (.slice (some ⟨bb,0,none⟩) (Xn (YM d) d (j+1)).length sc) (Xn (YM d) d (j+1)) from HO) ZF (i:=j+1) (j:=0) (y:=z) (Te HSL.out hx) (by omega) rfl
      rw[hml,Nat.mul_one,Nat.add_zero,Sh HSL.out hs] at h1
      exact h1,(HU.out.2.drew).setCell (HU.out.1.blk bb rfl).1 _⟩
     have hzz:IntKind.i64.wrap (x+y)=z:=by rw[hz,Rn]
     have hj0:IntKind.i64.wrap (j:Int)=(j:Int):=IntWalk.i64_in _ (by omega)
     have hj3:¬ ((j:Int)+1<0):=by omega
     have hj4:(0:Int)≤(j:Int)+1:=by omega
     have hj1:IntKind.i64.wrap (((j+1:Nat):Int) - 1)=(j:Int):=by rw[IntWalk.i64_in _ (by omega)];omega
     have hj2:(j:Int)<(d.length:Int):=by omega
     clear hx hy hs hz hml HO HU
     go_upto_region 6 with fail
     have hS0:(fun W:World=>W.cell? ⟨bb,j+1,none⟩=some (.int .i64 x)∧W.cell? ⟨bb,j,none⟩=some (.int .i64 y)) wr.drew:=⟨c1,c0⟩
     have f2:wr.drew.frozen? ⟨bb,j+1,none⟩=false:=f1
     have c2:wr.drew.cell? ⟨bb,j+1,none⟩=some (.int .i64 x):=c1
     clear c1 c0 f1
     refine Z8 (fun W:World=>W.cell? ⟨bb,j+1,none⟩=some (.int .i64 x)∧W.cell? ⟨bb,j,none⟩=some (.int .i64 y)) (fun i=>i == 11) (by kernel_rfl) ?_
     generalize wr.drew=W1 at hS0 HN f2 c2 ⊢
     refine J2 0 25 _ hS0 ?_
     try simp only[Ja]
     refine J2 1 26 _ hS0 ?_
     try simp only[Ja]
     refine J2 2 27 (.pointer (some ⟨bb,j+1,none⟩)) hS0 ?_
     try simp only[Ja]
     refine J2 3 28 (.int .i64 x) hS0 ?_
     try simp only[Ja]
     refine J2 4 29 _ hS0 ?_
     try simp only[Ja]
     refine J2 5 30 _ hS0 ?_
     try simp only[Ja]
     refine J2 6 31 (.int .i64 j) hS0 ?_
     try simp only[Ja]
     refine J2 7 32 (.pointer (some ⟨bb,j,none⟩)) hS0 ?_
     try simp only[Ja]
     refine J2 8 33 (.int .i64 y) hS0 ?_
     try simp only[Ja]
     refine J2 9 34 (.int .i64 z) hS0 ?_
     try simp only[Ja]
     refine J2 10 35 (.pointer (some ⟨bb,j+1,none⟩)) hS0 ?_
     try simp only[Ja]
     refine Zk (i:=11) (d:=none) (w':=W1.setCell ⟨bb,j+1,none⟩ (.int .i64 z)) (by kernel_rfl) rfl rfl (by rfl) (by go_simp;try rfl) (fun h=>by cases h) ?_
     try simp only[Ja]
     refine Z3 (by kernel_rfl) ?_ _
     clear hS0 f2 c2
     generalize W1.setCell ⟨bb,j+1,none⟩ (.int .i64 z)=W2 at HN ⊢
     go_wp2_with fail
     go_roundg (d.length - (j+2))
     case measure=>rw[HG.out];omega
     case rel=>exact ⟨j+2,rfl,by simp;omega,by omega,HN⟩
   ·obtain rfl:i=d.length:=by omega
    have hi1:¬ (d.length:Int)<(d.length:Int):=by omega
    have HO:Hid (Own Zr 1 3 w.heap.size wr (.slice sa d.length sc) (YM d)∧Below w.heap.size w wr):=Jh (by have h:=HU.out;rw[Z1e HSL.out] at h;exact h)
    clear hlt HU
    go_wp2_with fail
    go_ret3
    exact .inl ⟨YM d,u,_,HD.out,rfl,HO.out.1,HO.out.2⟩
 ·have HD:=Jh (show UT n b=none from by unfold UT;rw[hd];rfl)
  have HB:=Lib.hid hb
  clear hd hb
  go_wp2_with fail
  go_loopg [20,10] 0 (fun g kv iv wr=>g=0∧kv=.int .i64 0∧wr=w5)
  case atStart=>exact ⟨rfl,rfl,rfl⟩
  case round =>
   obtain ⟨rfl,rfl,rfl⟩:=hrel
   go_wp2_with fail
   go_ret3
   exact .inr ⟨HD.out,rfl,HB.out⟩
noncomputable def VW (n:Nat) (d:Bool) (b:List UInt8):Option (List Int × Nat):=if d then UT n b else Xg n none b
noncomputable def ZP (n:Nat):Nat→List UInt8→Option (List (List Int) × List UInt8)
 | 0,b=>some ([],b)
 | c+1,b=>(ZP n c b).bind fun p=>(VW n (dlt c) p.2).map fun q=>(p.1++[q.1],p.2.drop q.2)
theorem Z22 {n c:Nat} {b r:List UInt8} {L:List (List Int)} {l:List Int} {u:Nat} (h:ZP n c b=some (L,r)) (k:VW n (dlt c) r=some (l,u)):ZP n (c+1) b=some (L++[l],r.drop u):=by
 simp[ZP,h,k]
theorem TZ {n c:Nat} {b:List UInt8} (h:ZP n c b=none):∀ d,ZP n (c+d) b=none
 | 0=>h
 | d+1=>by
  show (ZP n (c+d) b).bind _=none
  rw[TZ h d]
  rfl
theorem SY {n c:Nat} {b r:List UInt8} {L:List (List Int)} (h:ZP n c b=some (L,r)) (k:VW n (dlt c) r=none) {d:Nat} (hd:c<d):ZP n d b=none:=by
 have h1:ZP n (c+1) b=none:=by simp[ZP,h,k]
 have:=TZ h1 (d - (c+1))
 rwa [show c+1+(d - (c+1))=d by omega] at this
theorem TT {n:Nat} (hn:n≤65536) {b:List UInt8} {l:List Int} {u:Nat} (h:Xg n none b=some (l,u)):l.length=n∧u≤b.length:=by
 rcases (Rm n (by omega) none b l u).1 h with ⟨h1,_,_,h2,h3⟩|⟨h1,h2,h3⟩
 ·exact ⟨h1,by rw[h3];exact h2.length_le⟩
 ·subst h2
  exact ⟨by rw[h1];rfl,by omega⟩
theorem Tp {n:Nat} (hn:n≤65536) {d:Bool} {b:List UInt8} {l:List Int} {u:Nat} (h:VW n d b=some (l,u)):l.length=n∧u≤b.length:=by
 unfold VW at h
 cases d with
 | false=>exact TT hn h
 | true =>
  simp only[if_true] at h
  unfold UT at h
  rw[Option.map_eq_some_iff] at h
  obtain ⟨⟨l0,u0⟩,h1,h2⟩:=h
  cases h2
  have:=TT hn h1
  exact ⟨by rw[Sa];exact this.1,this.2⟩
theorem UR {n:Nat} (hn:n≤65536):∀ {c:Nat} {b r:List UInt8} {L:List (List Int)},ZP n c b=some (L,r)→L.length=c∧∀ x∈L,x.length=n
 | 0,b,r,L,h=>by
  cases h
  exact ⟨rfl,fun x hx=>by simp at hx⟩
 | c+1,b,r,L,h=>by
  unfold ZP at h
  rw[Option.bind_eq_some_iff] at h
  obtain ⟨⟨L0,r0⟩,h1,h2⟩:=h
  rw[Option.map_eq_some_iff] at h2
  obtain ⟨⟨l,u⟩,h3,h4⟩:=h2
  cases h4
  have h5:=UR hn h1
  have h6:=Tp hn h3
  refine ⟨by rw[List.length_append,h5.1];rfl,fun x hx=>?_⟩
  rcases List.mem_append.1 hx with hx|hx
  ·exact h5.2 x hx
  ·rw[List.mem_singleton.1 hx];exact h6.1
def Uq (L:List (List Int)) (j c:Nat):Int:=(L.getD c []).getD j 0
def YV (L:List (List Int)) (i:Nat) (ls:List OpD):List OpD:=ls.mapIdx fun j o=>if j<i then o.withF (Uq L j) else o
theorem Uf (L:List (List Int)) (i:Nat) (ls:List OpD):(YV L i ls).length=ls.length:=by simp[YV]
theorem Z4K (L:List (List Int)) (ls:List OpD):YV L 0 ls=ls:=by
 apply List.ext_getElem?
 intro j
 simp[YV]
theorem Z2V (L:List (List Int)) (i:Nat) {ls:List OpD} {x:OpD} (h:ls[i]?=some x):(YV L i ls)[i]?=some x:=by simp[YV,h]
theorem Z4G (L:List (List Int)) (i:Nat) {ls:List OpD} {x:OpD} (h:ls[i]?=some x):YV L (i+1) ls=(YV L i ls).set i (x.withF (Uq L i)):=by
 apply List.ext_getElem?
 intro j
 have hi:=(List.getElem?_eq_some_iff.1 h).1
 by_cases e:j=i
 ·subst e
  rw[List.getElem?_set_self (by rw[Uf];exact hi)]
  simp[YV,h]
 ·rw[List.getElem?_set_ne (Ne.symm e)]
  simp only[YV,List.getElem?_mapIdx]
  congr 1
  funext o
  by_cases h1:j<i
  ·rw[if_pos h1,if_pos (by omega)]
  ·rw[if_neg h1,if_neg (by omega)]
theorem Own.putOp {base g n cap i:Nat} {W W':World} {l:List OpD} {x:OpD} {f:Nat→Int} (h:Own OpD.cells 26 68 base W (.slice (some ⟨g,0,none⟩) n cap) l) (hx:l[i]?=some x) (hA:At g (i*26) x f W') (hR:Rst g (i*26) W W') :
  Own OpD.cells 26 68 base W' (.slice (some ⟨g,0,none⟩) n cap) (l.set i (x.withF f)):=by
 obtain ⟨h1,h2⟩:=h
 have hi:=(List.getElem?_eq_some_iff.1 hx).1
 rcases h2 with ⟨e1,_⟩|⟨g',cap',cur,e1,hb,hg,hn,hm,hs,ht⟩
 ·cases e1
 ·cases e1
  obtain ⟨cs',k1,k2,k3⟩:=hR cur _ hg
  refine ⟨by rw[Zq OpD.len],.inr ⟨g,cap,cs',by rw[List.length_set],hb,k1,by rw[List.length_set];exact hn,hm,by rw[k2];exact hs,?_⟩⟩
  apply List.ext_getElem?
  intro q
  rw[List.length_set]
  by_cases hq:q<l.length*26
  ·rw[List.getElem?_take_of_lt hq,Array.getElem?_toList]
   have hdm:q / 26*26+q % 26=q:=by omega
   by_cases e:q / 26=i
   ·have hset:(l.set i (x.withF f))[i]?=some (x.withF f):=List.getElem?_set_self hi
    obtain ⟨u,hu⟩:∃ u,(x.withF f).cells[q % 26]?=some u:=⟨_,List.getElem?_eq_getElem (by rw[OpD.len];omega)⟩
    have h5:=getElem?_flatMap_k OpD.len _ i _ hset _ _ hu
    have h6:=hA.cells _ _ hu
    unfold World.cell? at h6
    rw[k1] at h6
    rw[←e,hdm] at h5 h6
    rw[←e]
    rw[h5]
    exact h6
   ·obtain ⟨y,hy⟩:∃ y,l[q / 26]?=some y:=⟨_,List.getElem?_eq_getElem (by omega)⟩
    have hset:(l.set i (x.withF f))[q / 26]?=some y:=by rw[List.getElem?_set_ne (Ne.symm e)];exact hy
    obtain ⟨u,hu⟩:∃ u,y.cells[q % 26]?=some u:=⟨_,List.getElem?_eq_getElem (by rw[OpD.len];omega)⟩
    have h5:=getElem?_flatMap_k OpD.len _ _ _ hset _ _ hu
    have h6:=getElem?_flatMap_k OpD.len _ _ _ hy _ _ hu
    rw[hdm] at h5 h6
    rw[h5,k3 q (by omega),←Array.getElem?_toList,←List.getElem?_take_of_lt hq,ht,h6]
  ·rw[List.getElem?_eq_none (by rw[List.length_take];omega),List.getElem?_eq_none (by rw[Zq OpD.len,List.length_set];omega)]
structure TKS (w0:World) (T:Nat) (W:World) (tb:Value) (r:List UInt8) (tl:Value) (ls:List OpD):Prop where
 cell:W.heap[T]?=some (.cells #[tb,tl] 90 (0,0))
 byt:Z0 u8c 1 w0 tb r
 own:Own OpD.cells 26 68 w0.heap.size W tl ls
 bel:Below w0.heap.size w0 W
 new:w0.heap.size≤T
 flt:W.heap[T+1]?=some (.cells #[.int .i64 0] 91 (0,0))
def Kp (w0:World) (T:Nat) (W:World):Prop:=Below w0.heap.size w0 W∧W.heap[T+1]?=some (.cells #[.int .i64 0] 91 (0,0))
theorem TKS.kp {w0:World} {T:Nat} {W:World} {tb tl:Value} {r:List UInt8} {ls:List OpD} (h:TKS w0 T W tb r tl ls):Kp w0 T W:=⟨h.bel,h.flt⟩
theorem TKS.fltKeep {w0:World} {T:Nat} {W W':World} {tb tl:Value} {r:List UInt8} {ls:List OpD} {S:Nat→Prop} (h:TKS w0 T W tb r tl ls) (hx:Ext S W W') (hS:¬ S (T+1)):W'.heap[T+1]?=some (.cells #[.int .i64 0] 91 (0,0)):=(hx.block _ (Array.getElem?_eq_some_iff.1 h.flt).1 hS).trans h.flt
theorem TKS.ext {w0:World} {T:Nat} {W W':World} {tb tl:Value} {r:List UInt8} {ls:List OpD} {S:Nat→Prop} (h:TKS w0 T W tb r tl ls) (hx:Ext S W W') (hT:¬ S T) (hl:∀ k,tl.ownBlock=some k→¬ S k) (hS:∀ k,k<w0.heap.size→¬ S k) (hF:¬ S (T+1)):TKS w0 T W' tb r tl ls :=
 ⟨(hx.block _ (Array.getElem?_eq_some_iff.1 h.cell).1 hT).trans h.cell,h.byt,h.own.ext hx hl,Ext.new h.bel hx (fun i hi _ e=>hS i hi e) h.bel.size,h.new,h.fltKeep hx hF⟩
theorem TKS.below {w0:World} {T:Nat} {W W':World} {tb tl:Value} {r:List UInt8} {ls:List OpD} (h:TKS w0 T W tb r tl ls) (hb:Below W.heap.size W W'):TKS w0 T W' tb r tl ls :=
 h.ext (Ext.of_below (S:=fun _=>False) hb) id (fun _ _=>id) (fun _ _=>id) id
theorem TKS.bytes {w0:World} {T:Nat} {W:World} {tb tl:Value} {r:List UInt8} {ls:List OpD} (h:TKS w0 T W tb r tl ls):Z0 u8c 1 W tb r:=h.byt.below h.bel
def IS (b off:Nat) (o:OpD) (f:Nat→Int) (J:Nat→(Nat→Prop)→World→Prop) (A:Nat→Prop) (w:World) (c:Nat) (A':Nat→Prop) (W:World):Prop:=J c A' W∧At b off o (stg f o c) W∧Ext (fun k=>¬ A k∨k=b) w W∧Rst b off w W
section
variable {P:Program} {gf:Nat} {lb:Array Value} {b off:Nat} {o:OpD} {f:Nat→Int} {J:Nat→(Nat→Prop)→World→Prop} {A A':Nat→Prop} {w W:World} {c:Nat}
theorem IS.use (hU:SQ P gf lb f (fld o) J) (hAb:A b) (hAA:∀ k,A k→A' k) (h:IS b off o f J A w c A' W) (hc:c<21) (h1:c≠10) (h2:c≠13) :
  Calls P gf (#[.pointer (some ⟨b,off+Wb c,none⟩),.bool (dlt c)]++lb) W fun e W'=>(∃ v,e=.returned v)∧IS b off o f J A w (c+1) A' W'∧Ext (fun k=>¬ A' k∨k=b) W W':=by
 have hn:=h.2.1.num c hc
 rw[Z77] at hn
 have hf:=h.2.1.free (Wb c) (Z37 hc)
 refine (hU c A' W b (off+Wb c) hc h.1 hn hf (hAA b hAb)).mono ?_
 rintro e W' ⟨hv,hJ,hp,hq,hfz,hx,hsh⟩
 refine ⟨hv,⟨hJ,?_,h.2.2.1.andThen hx (fun i hi e=>e.elim (fun e=>.inl (fun ha=>e (hAA i ha))) .inr),h.2.2.2.trans (Rst.of_shp hsh hq (by omega) (by have:=Z37 hc;omega))⟩,hx⟩
 have:=h.2.1.put hc hp hq hfz
 rwa [Z6a f o h1 h2] at this
theorem IS.box {k:Nat} (hU:SQ P gf lb f (fld o) J) (h:IS b off o f J A w c A' W) (hc:c=10∨c=13) (hk:W.cell? ⟨k,0,none⟩=some (.int .i64 (fld o c))) (hf:W.frozen? ⟨k,0,none⟩=false) (hn:w.heap.size≤k) (hCk:A' k) (hb:b<w.heap.size) (hAb:A b) (hAA:∀ k,A k→A' k) :
  Calls P gf (#[.pointer (some ⟨k,0,none⟩),.bool (dlt c)]++lb) W fun e W'=>(∃ v,e=.returned v)∧IS b off o f J A w (c+1) A' W'∧W'.cell? ⟨k,0,none⟩=some (.int .i64 (f c))∧W'.frozen? ⟨k,0,none⟩=false∧Ext (fun i=>¬ A' i∨i=k) W W':=by
 refine (hU c A' W k 0 (by omega) h.1 hk hf hCk).mono ?_
 rintro e W' ⟨hv,hJ,hp,hq,hfz,hx,hsh⟩
 refine ⟨hv,⟨hJ,?_,h.2.2.1.andThen hx (fun i hi e=>e.elim (fun e=>.inl (fun ha=>e (hAA i ha))) (fun e=>by omega)),h.2.2.2.trans (Rst.same (hx.block b h.2.1.lt (fun e=>e.elim (fun e=>e (hAA b hAb)) (fun e=>by omega))))⟩,hp,(hfz 0).trans hf,hx⟩
 have:=h.2.1.ext hx (fun e=>e.elim (fun e=>e (hAA b hAb)) (fun e=>by omega))
 rwa [Z61 f o hc] at this
theorem IS.step {W':World} {A'':Nat→Prop} (h:IS b off o f J A w c A' W) (hJ:JOK b J) (hb:A' b) (hA:∀ k,A'' k→A' k∨(W.heap.size≤k∧k<W'.heap.size)) (hx:Ext (fun _=>False) W W'):IS b off o f J A w c A'' W' :=
 ⟨hJ _ _ _ _ _ h.1 (hx.mono (fun _ _ e=>e.elim)) hA hb,h.2.1.ext hx id,h.2.2.1.andThen hx (fun i hi e=>e.elim),h.2.2.2.trans (Rst.same (hx.block b h.2.1.lt id))⟩
end
def KF (b off:Nat) (o:OpD) (f:Nat→Int) (J:Nat→(Nat→Prop)→World→Prop) (A:Nat→Prop) (w:World) (k5 k6 c:Nat) (x5 x6:Int) (A':Nat→Prop) (W:World):Prop:=IS b off o f J A w c A' W∧W.cell? ⟨k5,0,none⟩=some (.int .i64 x5)∧W.frozen? ⟨k5,0,none⟩=false∧W.cell? ⟨k6,0,none⟩=some (.int .i64 x6)∧W.frozen? ⟨k6,0,none⟩=false
section
variable {b off:Nat} {o:OpD} {f:Nat→Int} {J:Nat→(Nat→Prop)→World→Prop} {A A' A'':Nat→Prop} {w W W':World} {k5 k6 c c':Nat} {x5 x6:Int} {S:Nat→Prop}
theorem KF.ext (h:KF b off o f J A w k5 k6 c x5 x6 A' W) (hi:IS b off o f J A w c' A'' W') (hx:Ext S W W') (h5:¬ S k5) (h6:¬ S k6):KF b off o f J A w k5 k6 c' x5 x6 A'' W' :=
 ⟨hi,hx.keep h.2.1 h5,(hx.frozen (p:=⟨k5,0,none⟩) (Zh h.2.1) h5).trans h.2.2.1,hx.keep h.2.2.2.1 h6,(hx.frozen (p:=⟨k6,0,none⟩) (Zh h.2.2.2.1) h6).trans h.2.2.2.2⟩
theorem KF.step (h:KF b off o f J A w k5 k6 c x5 x6 A' W) (hJ:JOK b J) (hb:A' b) (hA:∀ k,A'' k→A' k∨(W.heap.size≤k∧k<W'.heap.size)) (hx:Ext (fun _=>False) W W'):KF b off o f J A w k5 k6 c x5 x6 A'' W' :=
 h.ext (h.1.step hJ hb hA hx) hx id id
end
theorem Wz {W:World} {b q:Nat} {v u:Value} (h:W.cell? ⟨b,q,none⟩=some u):(W.setCell ⟨b,q,none⟩ v).cell? ⟨b,q,none⟩=some v:=by
 go_simp
theorem WU {W:World} {b q p:Nat} {v:Value} (h:p≠q):(W.setCell ⟨b,q,none⟩ v).cell? ⟨b,p,none⟩=W.cell? ⟨b,p,none⟩:=by
 go_simp
theorem At.num_eq {b off:Nat} {o:OpD} {g:Nat→Int} {W:World} (h:At b off o g W) (g':Nat→Int) (he:∀ c,c<21→g c=g' c):At b off o g' W :=
 { h with num:=fun c hc=>by rw[←he c hc];exact h.num c hc }
theorem Z6J (f:Nat→Int) (o:OpD):∀ c,c<21→(fun d=>if d=13 then f 13 else (fun d=>if d=10 then f 10 else stg f o 21 d) d) c=f c:=by
 intro c hc
 dsimp only
 by_cases h1:c=13
 ·rw[if_pos h1,h1]
 ·rw[if_neg h1]
  by_cases h2:c=10
  ·rw[if_pos h2,h2]
  ·rw[if_neg h2]
   unfold stg
   rw[if_pos ⟨hc,h2,h1⟩]
theorem Z46 {P:Program} {ops:Array Oper} {Q:Exit→Act→World→Prop} {md:Region.Mode} {S:World→Prop} {Z:Nat→Bool} {rs:List Nat} {fuel:Nat} {listed:Array Bool} {a:Act} {w:World} (hr:Region.ready md ops listed=rs) (hne:rs≠[])
  (h:∀ i∈rs,wpOp P ops Q i (fun a' w'=>(Z i=false→S w')∧ZO P md ops Q S Z fuel (listed.setIfInBounds i true) a' w') a w):ZO P md ops Q S Z (fuel+1) listed a w :=
 ⟨fun h0=>absurd (hr.symm.trans h0) hne,fun j hj=>by rw[hr] at hj;exact h j hj⟩
theorem Z1z {P:Program} {ops:Array Oper} {Q:Exit→Act→World→Prop} {i:Nat} {o:Oper} {d:Option Tmp} {v:Value} {K:Act→World→Prop} {a:Act} {w w':World} (ho:ops[i]?=some o) (hd:o.dst=d) (hw:Region.wanted o (yielded ops a.tmps)=true)
  (hv:(execOp a.eval o).run P w=.ok (.value v) w') (h:K (a.put d v) w'):wpOp P ops Q i K a w:=by
 subst hd
 exact wpOp_step ho fun K' hK=>by
  rw[if_pos hw,Oper.wp,hv]
  exact hK _ _ h
theorem Ry {gf:Nat} {lb:Array Value} (hen:∀ args w,(callFunc gf args).run Tryz.prog w=.ok (.enter gf args) w) (b off:Nat) (o:OpD) (f:Nat→Int) (J:Nat→(Nat→Prop)→World→Prop) (A:Nat→Prop) (w:World) (hU:SQ Tryz.prog gf lb f (fld o) J)
  (hJ:JOK b J) (hAb:A b) (hA:At b off o (fld o) w) (h0:J 0 A w) :
  Calls Tryz.prog 92 #[.pointer (some ⟨b,off,none⟩),.func (.func gf) #[] lb] w fun e w'=>(∃ v,e=.returned v)∧J 21 A w'∧At b off o f w'∧Ext (fun k=>¬ A k∨k=b) w w'∧Rst b off w w':=by
 have hbw:=hA.lt
 have HU:=Lib.hid hU
 have HJ:=Lib.hid hJ
 have hid8:∀ k,A k→A k:=fun k h=>h
 have HS:Hid (IS b off o f J A w 0 A w):=Lib.hid ⟨h0,by rw[Z5x];exact hA,Ext.refl _ _,Rst.refl _ _ _⟩
 clear hU hJ hA h0
 go_enter Tryz.func92,Tryz.ntmps92
 go_wp2_with fail
 refine (IS.use HU.out hAb hid8 HS.out (by omega) (by omega) (by omega)).mono ?_
 rintro e w1 ⟨⟨v1,rfl⟩,h1,-⟩
 have HS1:=Lib.hid h1
 clear h1 HS
 go_wp2_with fail
 refine (IS.use HU.out hAb hid8 HS1.out (by omega) (by omega) (by omega)).mono ?_
 rintro e w2 ⟨⟨v2,rfl⟩,h2,-⟩
 have HS2:=Lib.hid h2
 clear h2 HS1
 go_wp2_with fail
 go_loopg [21] 8 (fun g kv wx=>∃ k:Nat,g=8 - k∧kv=.int .i64 k∧k≤8∧Hid (IS b off o f J A w (2+k) A wx))
 case atStart=>exact ⟨0,rfl,rfl,by omega,HS2⟩
 case round =>
  clear HS2
  obtain ⟨k,hg,rfl,hk,HS⟩:=hrel
  have HG:=Lib.hid hg
  clear hg
  by_cases hlt:k<8
  ·have hk1:(k:Int)<8:=by omega
   have hc:=IS.use HU.out hAb hid8 HS.out (c:=2+k) (by omega) (by omega) (by omega)
   rw[show off+Wb (2+k)=off+2+k by unfold Wb;rw[if_pos (by omega)];omega,show dlt (2+k)=true by unfold dlt;simp;omega] at hc
   have HC:=Lib.hid hc
   clear hc
   go_wp2_with fail
   refine HC.out.mono ?_
   rintro e w3 ⟨⟨v3,rfl⟩,h3,-⟩
   have HS3:=Lib.hid h3
   clear h3 HC HS
   go_wp2_with fail
   go_roundg (8 - (k+1))
   case measure=>rw[HG.out];omega
   case rel=>exact ⟨k+1,rfl,by simp,by omega,HS3⟩
  ·obtain rfl:k=8:=by omega
   have hk1:¬ (8:Int)<8:=by omega
   have HS10:Hid (IS b off o f J A w 10 A wr):=HS
   clear hlt HS hk
   go_upto_region 7 with fail
   go_cut [5,6] (fun pv qv wx=>∃ k5 k6:Nat,pv=.pointer (some ⟨k5,0,none⟩)∧qv=.pointer (some ⟨k6,0,none⟩)∧w.heap.size≤k5∧w.heap.size≤k6∧k5≠k6∧Hid (IS b off o f J A w 10 (fun k=>A k∨k=k5∨k=k6) wx∧wx.cell? ⟨k5,0,none⟩=some (.int .i64 (fld o 10))∧wx.frozen? ⟨k5,0,none⟩=false∧wx.cell? ⟨k6,0,none⟩=some (.int .i64 (fld o 13))∧wx.frozen? ⟨k6,0,none⟩=false))
   case first=>as_aux_lemma =>
    have hS0:(fun W:World=>W.cell? ⟨b,off+10,none⟩=some (.int .i64 (fld o 10))∧W.cell? ⟨b,off+13,none⟩=some (.int .i64 (fld o 13))) wr.drew:=⟨by have:=HS10.out.2.1.num 10 (by omega);exact this,by have:=HS10.out.2.1.num 13 (by omega);exact this⟩
    have HS1:Hid (IS b off o f J A w 10 A wr.drew):=Jh (HS10.out.step HJ.out hAb (fun k h=>.inl h) (Ext.refl _ _).drew)
    clear HS10
    refine Z8 (fun W:World=>W.cell? ⟨b,off+10,none⟩=some (.int .i64 (fld o 10))∧W.cell? ⟨b,off+13,none⟩=some (.int .i64 (fld o 13))) (fun _=>false) (by kernel_rfl) ?_
    generalize wr.drew=W1 at hS0 HS1 ⊢
    have hsz:=HS1.out.2.2.1.size
    refine J2 0 32 _ hS0 ?_
    try simp only[Ja]
    refine J2 1 33 (.pointer (some ⟨b,off,none⟩)) hS0 ?_
    try simp only[Ja]
    refine J2 2 34 (.pointer (some ⟨b,off+10,none⟩)) hS0 ?_
    try simp only[Ja]
    refine J2 3 35 (.int .i64 (fld o 10)) hS0 ?_
    try simp only[Ja]
    refine J2 4 36 _ hS0 ?_
    try simp only[Ja]
    refine J2 5 37 (.pointer (some ⟨b,off,none⟩)) hS0 ?_
    try simp only[Ja]
    refine J2 6 38 (.pointer (some ⟨b,off+13,none⟩)) hS0 ?_
    try simp only[Ja]
    refine J2 7 39 (.int .i64 (fld o 13)) hS0 ?_
    try simp only[Ja]
    refine Z46 (rs:=[8,9]) (by kernel_rfl) (by simp) (fun i hi=>?_)
    simp only[List.mem_cons,List.not_mem_nil,or_false] at hi
    rcases hi with rfl|rfl
    ·refine Z1z (d:=some 5) (v:=.pointer (some ⟨W1.heap.size,0,none⟩)) (w':=(W1.alloc (.cells #[.int .i64 0] 3))) rfl rfl (by rfl) (by go_simp;try rfl) ⟨fun _=>⟨Zo hS0.1 _,Zo hS0.2 _⟩,?_⟩
     try simp only[Ja]
     refine Zy (i:=9) (d:=some 6) (v:=.pointer (some ⟨W1.heap.size+1,0,none⟩)) (w':=((W1.alloc (.cells #[.int .i64 0] 3)).alloc (.cells #[.int .i64 0] 3))) (by kernel_rfl) rfl rfl (by rfl) (by go_simp;try rfl) (fun _=>⟨Zo (Zo hS0.1 _) _,Zo (Zo hS0.2 _) _⟩) ?_
     try simp only[Ja]
     have hS3:(fun W:World=>W.cell? ⟨b,off+10,none⟩=some (.int .i64 (fld o 10))∧W.cell? ⟨b,off+13,none⟩=some (.int .i64 (fld o 13))) ((W1.alloc (.cells #[.int .i64 0] 3)).alloc (.cells #[.int .i64 0] 3)):=⟨Zo (Zo hS0.1 _) _,Zo (Zo hS0.2 _) _⟩
     have HS3:Hid (Ext (fun _=>False) W1 ((W1.alloc (.cells #[.int .i64 0] 3)).alloc (.cells #[.int .i64 0] 3))):=Jh (((Ext.refl _ _).alloc _).alloc _)
     have z3:((W1.alloc (.cells #[.int .i64 0] 3)).alloc (.cells #[.int .i64 0] 3)).heap.size=W1.heap.size+2:=by simp
     have e1:((W1.alloc (.cells #[.int .i64 0] 3)).alloc (.cells #[.int .i64 0] 3)).heap[W1.heap.size]?=some (.cells #[.int .i64 0] 3 (0,0)):=(Below.heap_alloc _ _ _ (by simp)).trans (ZD W1 _)
     have e2:((W1.alloc (.cells #[.int .i64 0] 3)).alloc (.cells #[.int .i64 0] 3)).heap[W1.heap.size+1]?=some (.cells #[.int .i64 0] 3 (0,0)):=by have:=ZD (W1.alloc (.cells #[.int .i64 0] 3)) (.cells #[.int .i64 0] 3);rwa [World.size_alloc] at this
     generalize ((W1.alloc (.cells #[.int .i64 0] 3)).alloc (.cells #[.int .i64 0] 3))=W3 at hS3 HS3 z3 e1 e2 ⊢
     clear hS0
     have hb1:b<W1.heap.size:=by omega
     obtain ⟨k1,hk1⟩:∃ k1,k1=W1.heap.size:=⟨_,rfl⟩
     have HK1:=Lib.hid hk1
     rw[←hk1] at e1 e2 z3 hb1 hsz ⊢
     clear hk1
     have c5:=cell_of_one e1
     have f5:=free_of_one e1
     have x5:Ext (·=k1) W3 (W3.setCell ⟨k1,0,none⟩ (.int .i64 (fld o 10))):=(Ext.refl (·=k1) W3).setCell (p:=⟨k1,0,none⟩) (.inr rfl) _
     have hS4:(fun W:World=>W.cell? ⟨b,off+10,none⟩=some (.int .i64 (fld o 10))∧W.cell? ⟨b,off+13,none⟩=some (.int .i64 (fld o 13))) (W3.setCell ⟨k1,0,none⟩ (.int .i64 (fld o 10))):=⟨x5.keep hS3.1 (by omega),x5.keep hS3.2 (by omega)⟩
     refine Zk (i:=10) (d:=none) (w':=W3.setCell ⟨k1,0,none⟩ (.int .i64 (fld o 10))) (by kernel_rfl) rfl rfl (by rfl) (by go_simp;try rfl) (fun _=>hS4) ?_
     try simp only[Ja]
     have HS4:Hid (Ext (fun _=>False) W1 (W3.setCell ⟨k1,0,none⟩ (.int .i64 (fld o 10)))):=Jh (HS3.out.setCell (p:=⟨k1,0,none⟩) (.inl (by have:=HK1.out;show W1.heap.size≤k1;omega)) _)
     have g5:=one_setCell (u:=.int .i64 (fld o 10)) e1
     have g6:(W3.setCell ⟨k1,0,none⟩ (.int .i64 (fld o 10))).heap[k1+1]?=some (.cells #[.int .i64 0] 3 (0,0)):=(x5.block _ (by omega) (by omega)).trans e2
     have z4:(W3.setCell ⟨k1,0,none⟩ (.int .i64 (fld o 10))).heap.size=W3.heap.size:=World.size_setCell _ _ _
     generalize W3.setCell ⟨k1,0,none⟩ (.int .i64 (fld o 10))=W4 at hS4 HS4 g5 g6 z4 ⊢
     clear hS3 HS3 e1 e2 c5 f5 x5
     have c6:=cell_of_one g6
     have f6:=free_of_one g6
     have x6:Ext (·=k1+1) W4 (W4.setCell ⟨k1+1,0,none⟩ (.int .i64 (fld o 13))):=(Ext.refl (·=k1+1) W4).setCell (p:=⟨k1+1,0,none⟩) (.inr rfl) _
     have hS5:(fun W:World=>W.cell? ⟨b,off+10,none⟩=some (.int .i64 (fld o 10))∧W.cell? ⟨b,off+13,none⟩=some (.int .i64 (fld o 13))) (W4.setCell ⟨k1+1,0,none⟩ (.int .i64 (fld o 13))):=⟨x6.keep hS4.1 (by omega),x6.keep hS4.2 (by omega)⟩
     refine Zk (i:=11) (d:=none) (w':=W4.setCell ⟨k1+1,0,none⟩ (.int .i64 (fld o 13))) (by kernel_rfl) rfl rfl (by rfl) (by go_simp;try rfl) (fun _=>hS5) ?_
     try simp only[Ja]
     refine Z3 (by kernel_rfl) ?_ _
     have HS5:Hid (IS b off o f J A w 10 (fun k=>A k∨k=k1∨k=k1+1) (W4.setCell ⟨k1+1,0,none⟩ (.int .i64 (fld o 13)))):=Jh (HS1.out.step HJ.out hAb (fun k h=>h.elim .inl (fun e=>.inr (by have h1:=HK1.out;have h2:=World.size_setCell W4 ⟨k1+1,0,none⟩ (.int .i64 (fld o 13));constructor <;> omega))) (HS4.out.setCell (p:=⟨k1+1,0,none⟩) (.inl (by have:=HK1.out;show W1.heap.size≤k1+1;omega)) _))
     have g7:=one_setCell (u:=.int .i64 (fld o 13)) g6
     have g8:(W4.setCell ⟨k1+1,0,none⟩ (.int .i64 (fld o 13))).heap[k1]?=some (.cells #[.int .i64 (fld o 10)] 3 (0,0)):=(x6.block _ (by have:=(Array.getElem?_eq_some_iff.1 g5).1;omega) (by omega)).trans g5
     have HFIN:Hid (IS b off o f J A w 10 (fun k=>A k∨k=k1∨k=k1+1) (W4.setCell ⟨k1+1,0,none⟩ (.int .i64 (fld o 13)))∧_∧_∧_∧_):=Lib.hid ⟨HS5.out,cell_of_one g8,free_of_one g8,cell_of_one g7,free_of_one g7⟩
     clear hS4 hS5 HS4 HS5 g5 g6 g7 g8 c6 f6 x6
     go_wp2_with fail
     go_meet
     case rel=>exact ⟨k1,k1+1,rfl,rfl,by omega,by omega,by omega,HFIN⟩
    ·refine Z1z (d:=some 6) (v:=.pointer (some ⟨W1.heap.size,0,none⟩)) (w':=(W1.alloc (.cells #[.int .i64 0] 3))) rfl rfl (by rfl) (by go_simp;try rfl) ⟨fun _=>⟨Zo hS0.1 _,Zo hS0.2 _⟩,?_⟩
     try simp only[Ja]
     refine Zy (i:=8) (d:=some 5) (v:=.pointer (some ⟨W1.heap.size+1,0,none⟩)) (w':=((W1.alloc (.cells #[.int .i64 0] 3)).alloc (.cells #[.int .i64 0] 3))) (by kernel_rfl) rfl rfl (by rfl) (by go_simp;try rfl) (fun _=>⟨Zo (Zo hS0.1 _) _,Zo (Zo hS0.2 _) _⟩) ?_
     try simp only[Ja]
     have hS3:(fun W:World=>W.cell? ⟨b,off+10,none⟩=some (.int .i64 (fld o 10))∧W.cell? ⟨b,off+13,none⟩=some (.int .i64 (fld o 13))) ((W1.alloc (.cells #[.int .i64 0] 3)).alloc (.cells #[.int .i64 0] 3)):=⟨Zo (Zo hS0.1 _) _,Zo (Zo hS0.2 _) _⟩
     have HS3:Hid (Ext (fun _=>False) W1 ((W1.alloc (.cells #[.int .i64 0] 3)).alloc (.cells #[.int .i64 0] 3))):=Jh (((Ext.refl _ _).alloc _).alloc _)
     have z3:((W1.alloc (.cells #[.int .i64 0] 3)).alloc (.cells #[.int .i64 0] 3)).heap.size=W1.heap.size+2:=by simp
     have e1:((W1.alloc (.cells #[.int .i64 0] 3)).alloc (.cells #[.int .i64 0] 3)).heap[W1.heap.size]?=some (.cells #[.int .i64 0] 3 (0,0)):=(Below.heap_alloc _ _ _ (by simp)).trans (ZD W1 _)
     have e2:((W1.alloc (.cells #[.int .i64 0] 3)).alloc (.cells #[.int .i64 0] 3)).heap[W1.heap.size+1]?=some (.cells #[.int .i64 0] 3 (0,0)):=by have:=ZD (W1.alloc (.cells #[.int .i64 0] 3)) (.cells #[.int .i64 0] 3);rwa [World.size_alloc] at this
     generalize ((W1.alloc (.cells #[.int .i64 0] 3)).alloc (.cells #[.int .i64 0] 3))=W3 at hS3 HS3 z3 e1 e2 ⊢
     clear hS0
     have hb1:b<W1.heap.size:=by omega
     obtain ⟨k1,hk1⟩:∃ k1,k1=W1.heap.size:=⟨_,rfl⟩
     have HK1:=Lib.hid hk1
     rw[←hk1] at e1 e2 z3 hb1 hsz ⊢
     clear hk1
     have c5:=cell_of_one e2
     have f5:=free_of_one e2
     have x5:Ext (·=k1+1) W3 (W3.setCell ⟨k1+1,0,none⟩ (.int .i64 (fld o 10))):=(Ext.refl (·=k1+1) W3).setCell (p:=⟨k1+1,0,none⟩) (.inr rfl) _
     have hS4:(fun W:World=>W.cell? ⟨b,off+10,none⟩=some (.int .i64 (fld o 10))∧W.cell? ⟨b,off+13,none⟩=some (.int .i64 (fld o 13))) (W3.setCell ⟨k1+1,0,none⟩ (.int .i64 (fld o 10))):=⟨x5.keep hS3.1 (by omega),x5.keep hS3.2 (by omega)⟩
     refine Zk (i:=10) (d:=none) (w':=W3.setCell ⟨k1+1,0,none⟩ (.int .i64 (fld o 10))) (by kernel_rfl) rfl rfl (by rfl) (by go_simp;try rfl) (fun _=>hS4) ?_
     try simp only[Ja]
     have HS4:Hid (Ext (fun _=>False) W1 (W3.setCell ⟨k1+1,0,none⟩ (.int .i64 (fld o 10)))):=Jh (HS3.out.setCell (p:=⟨k1+1,0,none⟩) (.inl (by have:=HK1.out;show W1.heap.size≤k1+1;omega)) _)
     have g5:=one_setCell (u:=.int .i64 (fld o 10)) e2
     have g6:(W3.setCell ⟨k1+1,0,none⟩ (.int .i64 (fld o 10))).heap[k1]?=some (.cells #[.int .i64 0] 3 (0,0)):=(x5.block _ (by omega) (by omega)).trans e1
     have z4:(W3.setCell ⟨k1+1,0,none⟩ (.int .i64 (fld o 10))).heap.size=W3.heap.size:=World.size_setCell _ _ _
     generalize W3.setCell ⟨k1+1,0,none⟩ (.int .i64 (fld o 10))=W4 at hS4 HS4 g5 g6 z4 ⊢
     clear hS3 HS3 e1 e2 c5 f5 x5
     have c6:=cell_of_one g6
     have f6:=free_of_one g6
     have x6:Ext (·=k1) W4 (W4.setCell ⟨k1,0,none⟩ (.int .i64 (fld o 13))):=(Ext.refl (·=k1) W4).setCell (p:=⟨k1,0,none⟩) (.inr rfl) _
     have hS5:(fun W:World=>W.cell? ⟨b,off+10,none⟩=some (.int .i64 (fld o 10))∧W.cell? ⟨b,off+13,none⟩=some (.int .i64 (fld o 13))) (W4.setCell ⟨k1,0,none⟩ (.int .i64 (fld o 13))):=⟨x6.keep hS4.1 (by omega),x6.keep hS4.2 (by omega)⟩
     refine Zk (i:=11) (d:=none) (w':=W4.setCell ⟨k1,0,none⟩ (.int .i64 (fld o 13))) (by kernel_rfl) rfl rfl (by rfl) (by go_simp;try rfl) (fun _=>hS5) ?_
     try simp only[Ja]
     refine Z3 (by kernel_rfl) ?_ _
     have HS5:Hid (IS b off o f J A w 10 (fun k=>A k∨k=k1+1∨k=k1) (W4.setCell ⟨k1,0,none⟩ (.int .i64 (fld o 13)))):=Jh (HS1.out.step HJ.out hAb (fun k h=>h.elim .inl (fun e=>.inr (by have h1:=HK1.out;have h2:=World.size_setCell W4 ⟨k1,0,none⟩ (.int .i64 (fld o 13));constructor <;> omega))) (HS4.out.setCell (p:=⟨k1,0,none⟩) (.inl (by have:=HK1.out;show W1.heap.size≤k1;omega)) _))
     have g7:=one_setCell (u:=.int .i64 (fld o 13)) g6
     have g8:(W4.setCell ⟨k1,0,none⟩ (.int .i64 (fld o 13))).heap[k1+1]?=some (.cells #[.int .i64 (fld o 10)] 3 (0,0)):=(x6.block _ (by have:=(Array.getElem?_eq_some_iff.1 g5).1;omega) (by omega)).trans g5
     have HFIN:Hid (IS b off o f J A w 10 (fun k=>A k∨k=k1+1∨k=k1) (W4.setCell ⟨k1,0,none⟩ (.int .i64 (fld o 13)))∧_∧_∧_∧_):=Lib.hid ⟨HS5.out,cell_of_one g8,free_of_one g8,cell_of_one g7,free_of_one g7⟩
     clear hS4 hS5 HS4 HS5 g5 g6 g7 g8 c6 f6 x6
     go_wp2_with fail
     go_meet
     case rel=>exact ⟨k1+1,k1,rfl,rfl,by omega,by omega,by omega,HFIN⟩
   case rest =>
    obtain ⟨k5,k6,rfl,rfl,hk5,hk6,hk56,HF⟩:=hcut
    clear HS10
    have hAA:∀ k,A k→(A k∨k=k5∨k=k6):=fun k h=>.inl h
    go_wp2_with fail
    refine (IS.box HU.out HF.out.1 (.inl rfl) HF.out.2.1 HF.out.2.2.1 hk5 (.inr (.inl rfl)) hbw hAb hAA).mono ?_
    rintro e w4 ⟨⟨vv,rfl⟩,h4,hp4,hf4,hx4⟩
    have hno:¬ (¬ (A k6∨k6=k5∨k6=k6)∨k6=k5):=fun h=>h.elim (fun h=>h (.inr (.inr rfl))) (fun e=>by omega)
    have HF4:Hid (KF b off o f J A w k5 k6 11 (f 10) (fld o 13) (fun k=>A k∨k=k5∨k=k6) w4):=Lib.hid ⟨h4,hp4,hf4,hx4.keep HF.out.2.2.2.1 hno,(hx4.frozen (p:=⟨k6,0,none⟩) (Zh HF.out.2.2.2.1) hno).trans HF.out.2.2.2.2⟩
    clear h4 hp4 hf4 hx4 hno HF
    go_wp2_with fail
    refine (IS.use HU.out hAb hAA HF4.out.1 (by omega) (by omega) (by omega)).mono ?_
    rintro e w5 ⟨⟨vv,rfl⟩,h4,hx4⟩
    have HF5:Hid (KF b off o f J A w k5 k6 12 (f 10) (fld o 13) (fun k=>A k∨k=k5∨k=k6) w5):=Jh (KF.ext HF4.out h4 hx4 (fun h=>h.elim (fun h=>h (.inr (.inl rfl))) (fun e=>by omega)) (fun h=>h.elim (fun h=>h (.inr (.inr rfl))) (fun e=>by omega)))
    clear h4 hx4 HF4
    go_wp2_with fail
    refine (IS.use HU.out hAb hAA HF5.out.1 (by omega) (by omega) (by omega)).mono ?_
    rintro e w6 ⟨⟨vv,rfl⟩,h4,hx4⟩
    have HF6:Hid (KF b off o f J A w k5 k6 13 (f 10) (fld o 13) (fun k=>A k∨k=k5∨k=k6) w6):=Jh (KF.ext HF5.out h4 hx4 (fun h=>h.elim (fun h=>h (.inr (.inl rfl))) (fun e=>by omega)) (fun h=>h.elim (fun h=>h (.inr (.inr rfl))) (fun e=>by omega)))
    clear h4 hx4 HF5
    go_wp2_with fail
    refine (IS.box HU.out HF6.out.1 (.inr rfl) HF6.out.2.2.2.1 HF6.out.2.2.2.2 hk6 (.inr (.inr rfl)) hbw hAb hAA).mono ?_
    rintro e w7 ⟨⟨vv,rfl⟩,h4,hp4,hf4,hx4⟩
    have hno:¬ (¬ (A k5∨k5=k5∨k5=k6)∨k5=k6):=fun h=>h.elim (fun h=>h (.inr (.inl rfl))) (fun e=>by omega)
    have HF7:Hid (KF b off o f J A w k5 k6 14 (f 10) (f 13) (fun k=>A k∨k=k5∨k=k6) w7):=Lib.hid ⟨h4,hx4.keep HF6.out.2.1 hno,(hx4.frozen (p:=⟨k5,0,none⟩) (Zh HF6.out.2.1) hno).trans HF6.out.2.2.1,hp4,hf4⟩
    clear h4 hp4 hf4 hx4 hno HF6
    go_upto_region 12 with fail
    have HF8:Hid (KF b off o f J A w k5 k6 14 (f 10) (f 13) (fun k=>A k∨k=k5∨k=k6) w7.drew):=Jh (KF.step HF7.out HJ.out (hAA b hAb) (fun k h=>.inl h) (Ext.refl _ _).drew)
    clear HF7
    have hS0:(fun _:World=>True) w7.drew:=trivial
    refine Z8 (fun _=>True) (fun _=>false) (by kernel_rfl) ?_
    generalize w7.drew=W1 at hS0 HF8 ⊢
    refine J0 0 56 _ hS0 ?_
    try simp only[Ja]
    refine J0 1 57 (.pointer (some ⟨b,off,none⟩)) hS0 ?_
    try simp only[Ja]
    refine J0 2 58 (.pointer (some ⟨b,off+14,none⟩)) hS0 ?_
    try simp only[Ja]
    refine J0 3 59 _ hS0 ?_
    try simp only[Ja]
    refine J0 4 60 (.pointer (some ⟨b,off,none⟩)) hS0 ?_
    try simp only[Ja]
    refine J0 5 61 (.pointer (some ⟨b,off+15,none⟩)) hS0 ?_
    try simp only[Ja]
    refine J0 6 62 (.pointer (some ⟨b,off+15,none⟩)) hS0 ?_
    try simp only[Ja]
    refine J0 7 63 _ hS0 ?_
    try simp only[Ja]
    refine J0 8 64 (.pointer (some ⟨b,off,none⟩)) hS0 ?_
    try simp only[Ja]
    refine J0 9 65 (.pointer (some ⟨b,off+15,none⟩)) hS0 ?_
    try simp only[Ja]
    refine J0 10 66 (.pointer (some ⟨b,off+16,none⟩)) hS0 ?_
    try simp only[Ja]
    refine J0 11 67 _ hS0 ?_
    try simp only[Ja]
    refine J0 12 68 (.pointer (some ⟨b,off,none⟩)) hS0 ?_
    try simp only[Ja]
    refine J0 13 69 (.pointer (some ⟨b,off+20,none⟩)) hS0 ?_
    try simp only[Ja]
    refine J0 14 70 (.pointer (some ⟨b,off+20,none⟩)) hS0 ?_
    try simp only[Ja]
    refine J0 15 71 (.pointer (some ⟨b,off+20,none⟩)) hS0 ?_
    try simp only[Ja]
    refine J0 16 72 _ hS0 ?_
    try simp only[Ja]
    refine J0 17 73 (.pointer (some ⟨b,off,none⟩)) hS0 ?_
    try simp only[Ja]
    refine J0 18 74 (.pointer (some ⟨b,off+20,none⟩)) hS0 ?_
    try simp only[Ja]
    refine J0 19 75 (.pointer (some ⟨b,off+20,none⟩)) hS0 ?_
    try simp only[Ja]
    refine J0 20 76 (.pointer (some ⟨b,off+21,none⟩)) hS0 ?_
    try simp only[Ja]
    refine J0 21 77 _ hS0 ?_
    try simp only[Ja]
    refine J0 22 78 (.pointer (some ⟨b,off,none⟩)) hS0 ?_
    try simp only[Ja]
    refine J0 23 79 (.pointer (some ⟨b,off+23,none⟩)) hS0 ?_
    try simp only[Ja]
    refine J0 24 80 (.pointer (some ⟨b,off+23,none⟩)) hS0 ?_
    try simp only[Ja]
    refine J0 25 81 (.pointer (some ⟨b,off+23,none⟩)) hS0 ?_
    try simp only[Ja]
    refine J0 26 82 _ hS0 ?_
    try simp only[Ja]
    refine J0 27 83 (.pointer (some ⟨b,off,none⟩)) hS0 ?_
    try simp only[Ja]
    refine J0 28 84 (.pointer (some ⟨b,off+23,none⟩)) hS0 ?_
    try simp only[Ja]
    refine J0 29 85 (.pointer (some ⟨b,off+23,none⟩)) hS0 ?_
    try simp only[Ja]
    refine J0 30 86 (.pointer (some ⟨b,off+24,none⟩)) hS0 ?_
    try simp only[Ja]
    refine J0 33 89 (.int .i64 0) hS0 ?_
    try simp only[Ja]
    refine Zy (i:=31) (d:=some 87) (v:=.slice (some ⟨W1.heap.size,0,none⟩) 7 7) (w':=W1.alloc (.cells #[.pointer (some ⟨b,off+14,none⟩),.pointer (some ⟨b,off+15,none⟩),.pointer (some ⟨b,off+16,none⟩),.pointer (some ⟨b,off+20,none⟩),.pointer (some ⟨b,off+21,none⟩),.pointer (some ⟨b,off+23,none⟩),.pointer (some ⟨b,off+24,none⟩)] 164)) (by kernel_rfl) rfl rfl (by rfl) (by go_simp;try rfl) (fun _=>trivial) ?_
    try simp only[Ja]
    have HF9:Hid (KF b off o f J A w k5 k6 14 (f 10) (f 13) (fun k=>(A k∨k=k5∨k=k6)∨k=W1.heap.size) (W1.alloc (.cells #[.pointer (some ⟨b,off+14,none⟩),.pointer (some ⟨b,off+15,none⟩),.pointer (some ⟨b,off+16,none⟩),.pointer (some ⟨b,off+20,none⟩),.pointer (some ⟨b,off+21,none⟩),.pointer (some ⟨b,off+23,none⟩),.pointer (some ⟨b,off+24,none⟩)] 164))):=Jh (KF.step HF8.out HJ.out (hAA b hAb) (fun k h=>h.elim .inl (fun e=>.inr (by rw[World.size_alloc];omega))) ((Ext.refl _ _).alloc _))
    have hps:∀ k:Nat,k<7→(W1.alloc (.cells #[.pointer (some ⟨b,off+14,none⟩),.pointer (some ⟨b,off+15,none⟩),.pointer (some ⟨b,off+16,none⟩),.pointer (some ⟨b,off+20,none⟩),.pointer (some ⟨b,off+21,none⟩),.pointer (some ⟨b,off+23,none⟩),.pointer (some ⟨b,off+24,none⟩)] 164)).cell? ⟨W1.heap.size,k,none⟩=some (.pointer (some ⟨b,off+Wb (14+k),none⟩)):=fun k hk=>S3 W1 [.pointer (some ⟨b,off+14,none⟩),.pointer (some ⟨b,off+15,none⟩),.pointer (some ⟨b,off+16,none⟩),.pointer (some ⟨b,off+20,none⟩),.pointer (some ⟨b,off+21,none⟩),.pointer (some ⟨b,off+23,none⟩),.pointer (some ⟨b,off+24,none⟩)] _ k _ (by
     match k,hk with
     | 0,_=>rfl
     | 1,_=>rfl
     | 2,_=>rfl
     | 3,_=>rfl
     | 4,_=>rfl
     | 5,_=>rfl
     | 6,_=>rfl
     | n+7,h=>exact absurd h (by omega))
    obtain ⟨SB,hSB⟩:∃ SB,SB=W1.heap.size:=⟨_,rfl⟩
    have hSw:w.heap.size≤SB:=by rw[hSB];exact HF8.out.1.2.2.1.size
    rw[←hSB] at hps HF9 ⊢
    have hA7:∀ k,A k→((A k∨k=k5∨k=k6)∨k=SB):=fun k h=>.inl (.inl h)
    generalize W1.alloc (.cells #[.pointer (some ⟨b,off+14,none⟩),.pointer (some ⟨b,off+15,none⟩),.pointer (some ⟨b,off+16,none⟩),.pointer (some ⟨b,off+20,none⟩),.pointer (some ⟨b,off+21,none⟩),.pointer (some ⟨b,off+23,none⟩),.pointer (some ⟨b,off+24,none⟩)] 164)=W2 at HF9 hps ⊢
    have HPS:=Lib.hid hps
    clear hSB HF8 hps hS0
    have hS0:(fun _:World=>True) W2:=trivial
    refine J0 32 88 (.int .i64 7) hS0 ?_
    try simp only[Ja]
    refine Z3 (by kernel_rfl) ?_ _
    clear hS0
    go_wp2_with fail
    go_loopg [89] 7 (fun g kv wx=>∃ k:Nat,g=7 - k∧kv=.int .i64 k∧k≤7∧Hid (KF b off o f J A w k5 k6 (14+k) (f 10) (f 13) (fun k=>(A k∨k=k5∨k=k6)∨k=SB) wx)∧Hid (∀ q:Nat,q<7→wx.cell? ⟨SB,q,none⟩=some (.pointer (some ⟨b,off+Wb (14+q),none⟩))))
    case atStart=>exact ⟨0,rfl,rfl,by omega,HF9,HPS⟩
    case round =>
     clear HF9 HPS
     obtain ⟨k,hg,rfl,hk,HF,HPS⟩:=hrel
     have HG:=Lib.hid hg
     clear hg
     by_cases hlt:k<7
     ·have hk1:(k:Int)<7:=by omega
      have hcell:=HPS.out k hlt
      have hc:=IS.use HU.out hAb hA7 HF.out.1 (c:=14+k) (by omega) (by omega) (by omega)
      rw[show dlt (14+k)=false by unfold dlt;simp;omega] at hc
      generalize off+Wb (14+k)=pk at hcell hc
      have HC:=Lib.hid hc
      clear hc
      go_wp2_with fail
      refine HC.out.mono ?_
      rintro e w3 ⟨⟨v3,rfl⟩,h3,hx3⟩
      have HF3:Hid (KF b off o f J A w k5 k6 (14+k+1) (f 10) (f 13) (fun k=>(A k∨k=k5∨k=k6)∨k=SB) w3):=Jh (HF.out.ext h3 hx3 (fun h=>h.elim (fun h=>h (.inl (.inr (.inl rfl)))) (fun e=>by omega)) (fun h=>h.elim (fun h=>h (.inl (.inr (.inr rfl)))) (fun e=>by omega)))
      have HPS3:Hid (∀ q:Nat,q<7→w3.cell? ⟨SB,q,none⟩=some (.pointer (some ⟨b,off+Wb (14+q),none⟩))):=Jh (fun q hq=>hx3.keep (HPS.out q hq) (fun h=>h.elim (fun h=>h (.inr rfl)) (fun e=>by omega)))
      clear h3 hx3 HC HF HPS hcell
      go_wp2_with fail
      go_roundg (7 - (k+1))
      case measure=>rw[HG.out];omega
      case rel=>exact ⟨k+1,rfl,by simp,by omega,HF3,HPS3⟩
     ·obtain rfl:k=7:=by omega
      have hk1:¬ (7:Int)<7:=by omega
      have HF21:Hid (KF b off o f J A w k5 k6 21 (f 10) (f 13) (fun k=>(A k∨k=k5∨k=k6)∨k=SB) wr):=HF
      clear hlt HF HPS hk
      have hA:=HF21.out.1.2.1
      have c10:wr.cell? ⟨b,off+10,none⟩=some (.int .i64 (stg f o 21 10)):=hA.num 10 (by omega)
      have f10:wr.frozen? ⟨b,off+10,none⟩=false:=hA.free 10 (by omega)
      have c13:wr.cell? ⟨b,off+13,none⟩=some (.int .i64 (stg f o 21 13)):=hA.num 13 (by omega)
      have f13:wr.frozen? ⟨b,off+13,none⟩=false:=hA.free 13 (by omega)
      have c5:=HF21.out.2.1
      have c6:=HF21.out.2.2.2.1
      have hbk5:¬ b=k5:=by omega
      have hbk6:¬ b=k6:=by omega
      have x1:Ext (·=b) wr (wr.setCell ⟨b,off+10,none⟩ (.int .i64 (f 10))):=(Ext.refl (·=b) wr).setCell (p:=⟨b,off+10,none⟩) (.inr rfl) _
      have hA1:=hA.put (c:=10) (x:=f 10) (by omega) (Wz c10) (fun q hq=>WU hq) (fun q=>World.frozen?_setCell _ _ _ _)
      have x2:Ext (·=b) (wr.setCell ⟨b,off+10,none⟩ (.int .i64 (f 10))) ((wr.setCell ⟨b,off+10,none⟩ (.int .i64 (f 10))).setCell ⟨b,off+13,none⟩ (.int .i64 (f 13))):=(Ext.refl (·=b) _).setCell (p:=⟨b,off+13,none⟩) (.inr rfl) _
      have hA2:=hA1.put (c:=13) (x:=f 13) (by omega) (Wz (hA1.num 13 (by omega))) (fun q hq=>WU hq) (fun q=>World.frozen?_setCell _ _ _ _)
      have HFIN:=Jh (And.intro (HJ.out _ _ A _ _ (HJ.out _ _ A _ _ HF21.out.1.1 x1 (fun k h=>.inl (hA7 k h)) (hA7 b hAb)) x2 (fun k h=>.inl h) hAb) (And.intro (hA2.num_eq f (Z6J f o)) (And.intro ((HF21.out.1.2.2.1.andThen x1 (fun i hi e=>.inr e)).andThen x2 (fun i hi e=>.inr e)) ((HF21.out.1.2.2.2.trans (Rst.set (b:=b) (off:=off) (po:=off+10) wr (.int .i64 (f 10)) (by omega) (by omega))).trans (Rst.set (b:=b) (off:=off) (po:=off+13) _ (.int .i64 (f 13)) (by omega) (by omega))))))
      clear hA hA1 hA2 x1 x2 HF21
      go_wp2_with fail
      go_end0
      exact ⟨⟨_,rfl⟩,HFIN.out⟩
theorem UJ {W W':World} {b:Nat} (h:W'.heap[b]?=W.heap[b]?) (q:Nat):W'.cell? ⟨b,q,none⟩=W.cell? ⟨b,q,none⟩:=by
 unfold World.cell?
 rw[h]
structure NR (W1:World) (lo hi Br Bi rb rcap ii:Nat) (f:Nat→Int) (Bc:Nat):Prop where
 br:W1.cell? ⟨Br,0,none⟩=some (.slice (some ⟨rb,0,none⟩) 21 rcap)
 bi:W1.cell? ⟨Bi,0,none⟩=some (.int .i64 ii)
 row:∀ c,c<21→∃ sb sn sc,W1.cell? ⟨rb,c,none⟩=some (.slice (some ⟨sb,0,none⟩) sn sc)∧(lo≤sb∧sb<hi∧sb≠Bc)∧ii<sn∧W1.cell? ⟨sb,ii,none⟩=some (.int .i64 (f c))
 dis:(lo≤Br∧Br<hi∧Br≠Bc)∧(lo≤Bi∧Bi<hi∧Bi≠Bc)∧(lo≤rb∧rb<hi∧rb≠Bc)∧lo≤Bc∧Bc<hi
def JN (W1:World) (lo hi Bc:Nat) (c:Nat) (A:Nat→Prop) (W:World):Prop :=
 (∀ k,A k→k<lo∨hi≤k)∧(∀ k,lo≤k→k<hi→k≠Bc→W.heap[k]?=W1.heap[k]?)∧W.heap[Bc]?=some (.cells #[.int .i64 c] 3 (0,0))∧hi≤W.heap.size∧lo≤Bc∧Bc<hi
theorem JN.jok (W1:World) (lo hi Bc b:Nat):JOK b (JN W1 lo hi Bc):=by
 rintro c A A' W W' ⟨h1,h2,h3,h4,h5,h6⟩ hx hA hb
 have hbn:=h1 b hb
 have hs:=hx.size
 refine ⟨fun k hk=>(hA k hk).elim (h1 k) (fun e=>.inr (by omega)),fun k k1 k2 k3=>(hx.block _ (by omega) (by omega)).trans (h2 k k1 k2 k3),(hx.block _ (by omega) (by omega)).trans h3,by omega,h5,h6⟩
theorem Z60 {W1:World} {lo hi Br Bi rb rcap ii Bc:Nat} {f:Nat→Int} (hN:NR W1 lo hi Br Bi rb rcap ii f Bc) (fl:Nat→Int):SQ Tryz.prog 155 #[.pointer (some ⟨Br,0,none⟩),.pointer (some ⟨Bc,0,none⟩),.pointer (some ⟨Bi,0,none⟩)] f fl (JN W1 lo hi Bc):=by
 rintro c A W pb po hc ⟨hA,hkeep,hBc,hhi,hlo1,hlo2⟩ hcell hfree hAp
 show Calls Tryz.prog 155 #[.pointer (some ⟨pb,po,none⟩),.bool (dlt c),.pointer (some ⟨Br,0,none⟩),.pointer (some ⟨Bc,0,none⟩),.pointer (some ⟨Bi,0,none⟩)] W _
 obtain ⟨sb,sn,sc,hrow,⟨s1,s2,s3⟩,hin,hval⟩:=hN.row c hc
 obtain ⟨⟨r1,r2,r3⟩,⟨i1,i2,i3⟩,⟨q1,q2,q3⟩,-,-⟩:=hN.dis
 have hp:=hA pb hAp
 have hSW:(fun W:World=>W.cell? ⟨Br,0,none⟩=some (.slice (some ⟨rb,0,none⟩) 21 rcap)∧W.cell? ⟨Bc,0,none⟩=some (.int .i64 c)∧W.cell? ⟨rb,c,none⟩=some (.slice (some ⟨sb,0,none⟩) sn sc)∧W.cell? ⟨Bi,0,none⟩=some (.int .i64 ii)∧W.cell? ⟨sb,ii,none⟩=some (.int .i64 (f c))) W.drew:=⟨(UJ (hkeep Br r1 r2 r3) 0).trans hN.br,cell_of_one hBc,(UJ (hkeep rb q1 q2 q3) c).trans hrow,(UJ (hkeep Bi i1 i2 i3) 0).trans hN.bi,(UJ (hkeep sb s1 s2 s3) ii).trans hval⟩
 have hpc:pb≠Bc:=by omega
 have hpl:=Zh hcell
 have hc1:W.drew.cell? ⟨pb,po,none⟩=some (.int .i64 (fl c)):=hcell
 have hf1:W.drew.frozen? ⟨pb,po,none⟩=false:=hfree
 have hB1:W.drew.heap[Bc]?=some (.cells #[.int .i64 c] 3 (0,0)):=hBc
 have hW0:Ext (fun _=>False) W W.drew:=(Ext.refl _ _).drew
 have HK:=Lib.hid hkeep
 have HA:=Lib.hid hA
 clear hkeep hA hcell hfree hBc hrow hval
 go_enter Tryz.func155,Tryz.ntmps155
 go_upto_region 0 with fail
 refine Z8 (fun W:World=>W.cell? ⟨Br,0,none⟩=some (.slice (some ⟨rb,0,none⟩) 21 rcap)∧W.cell? ⟨Bc,0,none⟩=some (.int .i64 c)∧W.cell? ⟨rb,c,none⟩=some (.slice (some ⟨sb,0,none⟩) sn sc)∧W.cell? ⟨Bi,0,none⟩=some (.int .i64 ii)∧W.cell? ⟨sb,ii,none⟩=some (.int .i64 (f c))) (fun i=>i == 9) (by kernel_rfl) ?_
 generalize W.drew=W2 at hSW hc1 hf1 hB1 hW0 ⊢
 have hc21:(c:Int)<21:=by omega
 have hc0:(0:Int)≤(c:Int):=by omega
 have hi0:(0:Int)≤(ii:Int):=by omega
 have hi1:(ii:Int)<(sn:Int):=by omega
 refine JR 0 7 _ rfl rfl hSW (fun W hW=>by obtain ⟨q0,q1,q2,q3,q4⟩:=hW;go_simp;try rfl) ?_
 try simp only[Ja]
 refine JR 1 8 (.slice (some ⟨rb,0,none⟩) 21 rcap) rfl rfl hSW (fun W hW=>by obtain ⟨q0,q1,q2,q3,q4⟩:=hW;go_simp;try rfl) ?_
 try simp only[Ja]
 refine JR 2 9 (.int .i64 c) rfl rfl hSW (fun W hW=>by obtain ⟨q0,q1,q2,q3,q4⟩:=hW;go_simp;try rfl) ?_
 try simp only[Ja]
 refine JR 3 10 (.pointer (some ⟨rb,c,none⟩)) rfl rfl hSW (fun W hW=>by obtain ⟨q0,q1,q2,q3,q4⟩:=hW;go_simp;try rfl) ?_
 try simp only[Ja]
 refine JR 4 11 (.slice (some ⟨sb,0,none⟩) sn sc) rfl rfl hSW (fun W hW=>by obtain ⟨q0,q1,q2,q3,q4⟩:=hW;go_simp;try rfl) ?_
 try simp only[Ja]
 refine JR 5 12 (.int .i64 ii) rfl rfl hSW (fun W hW=>by obtain ⟨q0,q1,q2,q3,q4⟩:=hW;go_simp;try rfl) ?_
 try simp only[Ja]
 refine JR 6 13 (.pointer (some ⟨sb,ii,none⟩)) rfl rfl hSW (fun W hW=>by obtain ⟨q0,q1,q2,q3,q4⟩:=hW;go_simp;try rfl) ?_
 try simp only[Ja]
 refine JR 7 14 (.int .i64 (f c)) rfl rfl hSW (fun W hW=>by obtain ⟨q0,q1,q2,q3,q4⟩:=hW;go_simp;try rfl) ?_
 try simp only[Ja]
 refine JR 8 15 (.pointer (some ⟨pb,po,none⟩)) rfl rfl hSW (fun W hW=>by obtain ⟨q0,q1,q2,q3,q4⟩:=hW;go_simp;try rfl) ?_
 try simp only[Ja]
 refine Zk (i:=9) (d:=none) (w':=W2.setCell ⟨pb,po,none⟩ (.int .i64 (f c))) (by kernel_rfl) rfl rfl (by rfl) (by go_simp;try rfl) (fun h=>by cases h) ?_
 try simp only[Ja]
 refine Z3 (by kernel_rfl) ?_ _
 have hx3:Ext (·=pb) W2 (W2.setCell ⟨pb,po,none⟩ (.int .i64 (f c))):=(Ext.refl (·=pb) W2).setCell (p:=⟨pb,po,none⟩) (.inr rfl) _
 have hz2:W.heap.size≤W2.heap.size:=hW0.size
 have hB3:(W2.setCell ⟨pb,po,none⟩ (.int .i64 (f c))).heap[Bc]?=some (.cells #[.int .i64 c] 3 (0,0)):=(hx3.block _ (by omega) (fun e=>hpc e.symm)).trans hB1
 have hc3:=Wz (v:=.int .i64 (f c)) hc1
 have hP3:∀ q,q≠po→(W2.setCell ⟨pb,po,none⟩ (.int .i64 (f c))).cell? ⟨pb,q,none⟩=W.cell? ⟨pb,q,none⟩:=fun q hq=>(WU hq).trans (hW0.cell (p:=⟨pb,q,none⟩) hpl id)
 have hF3:∀ q,(W2.setCell ⟨pb,po,none⟩ (.int .i64 (f c))).frozen? ⟨pb,q,none⟩=W.frozen? ⟨pb,q,none⟩:=fun q=>(World.frozen?_setCell _ _ _ _).trans (hW0.frozen (p:=⟨pb,q,none⟩) hpl id)
 have hxa:Ext (·=pb) W (W2.setCell ⟨pb,po,none⟩ (.int .i64 (f c))):=(hW0.mono (fun _ _ f=>f.elim)).andThen hx3 (fun i hi e=>e)
 have hsh3:Shp pb W (W2.setCell ⟨pb,po,none⟩ (.int .i64 (f c))):=(Shp.same (hW0.block pb hpl id)).trans (Shp.set _ _ _ _)
 generalize W2.setCell ⟨pb,po,none⟩ (.int .i64 (f c))=W3 at hB3 hc3 hP3 hF3 hxa hsh3 ⊢
 have b3:=cell_of_one hB3
 have f3:=free_of_one hB3
 have hx4:Ext (·=Bc) W3 (W3.setCell ⟨Bc,0,none⟩ (.int .i64 ((c+1:Nat):Int))):=(Ext.refl (·=Bc) W3).setCell (p:=⟨Bc,0,none⟩) (.inr rfl) _
 have hz3:=hxa.size
 have hall:(∃ v,(Ending.returned (.tuple #[])=.returned v))∧JN W1 lo hi Bc (c+1) A (W3.setCell ⟨Bc,0,none⟩ (.int .i64 ((c+1:Nat):Int)))∧(W3.setCell ⟨Bc,0,none⟩ (.int .i64 ((c+1:Nat):Int))).cell? ⟨pb,po,none⟩=some (.int .i64 (f c)) ∧
   (∀ q,q≠po→(W3.setCell ⟨Bc,0,none⟩ (.int .i64 ((c+1:Nat):Int))).cell? ⟨pb,q,none⟩=W.cell? ⟨pb,q,none⟩)∧(∀ q,(W3.setCell ⟨Bc,0,none⟩ (.int .i64 ((c+1:Nat):Int))).frozen? ⟨pb,q,none⟩=W.frozen? ⟨pb,q,none⟩)∧Ext (fun k=>¬ A k∨k=pb) W (W3.setCell ⟨Bc,0,none⟩ (.int .i64 ((c+1:Nat):Int)))∧Shp pb W (W3.setCell ⟨Bc,0,none⟩ (.int .i64 ((c+1:Nat):Int))) :=
  ⟨⟨_,rfl⟩,⟨HA.out,fun k k1 k2 k3=>(hx4.block _ (by omega) k3).trans ((hxa.block _ (by omega) (by omega)).trans (HK.out k k1 k2 k3)),one_setCell hB3,by rw[World.size_setCell];omega,hlo1,hlo2⟩,
   (hx4.cell (p:=⟨pb,po,none⟩) (by show pb<_;omega) hpc).trans hc3,fun q hq=>(hx4.cell (p:=⟨pb,q,none⟩) (by show pb<_;omega) hpc).trans (hP3 q hq),fun q=>(hx4.frozen (p:=⟨pb,q,none⟩) (by show pb<_;omega) hpc).trans (hF3 q),
   ((hxa.mono (T:=fun k=>¬ A k∨k=pb) (fun k _ e=>.inr e))).andThen hx4 (fun i hi e=>.inl (fun ha=>by have:=HA.out i ha;omega)),hsh3.trans (Shp.same (hx4.block pb (by omega) hpc))⟩
 have HFIN:=Lib.hid hall.2
 clear hall hsh3 hx4 hxa hP3 hF3 hx3 hB3 hSW
 go_wp2_with fail
 go_end0
 exact ⟨⟨_,rfl⟩,HFIN.out⟩
end Go.Proofs.YtgmdimbiipemhaaGreatDoor
namespace Go.Proofs.YtgmdimbiipemhaaGreatDoor
open Go.RowKit
section
variable {α:Type} {ea:α→List Value} {k:Nat} {e:TypeId} {base:Nat} {w:World} {v:Value} {l:List α}
theorem UV {F:Fence} {n:Nat} {P:Program} {ops:Array Oper} {rest:List Oper} {o:Oper} {a:Act} {Q:Exit→Act→World→Prop} (hgd:o.guard=none) (s x:Operand) (t:TypeId)
  (ho:o.op=.call { callee:=.builtin .append,args:=#[s,x],argTypes:=#[t,t] })
  (i:TypeInfo) (z:Value) (bytes:Nat) (ht:P.underlying t=some (.slice e)) (hi:P.info? e=some i) (hz:i.zero=some z)
  (hsize:i.size=k) (hby:i.bytes=bytes) (hzs:z.cells.size=k) (hk0:0<k) (hk:∀ x,(ea x).length=k) (h1:∀ x,∀ u∈ea x,u.oneCell'=true)
  (hs:a.eval s=v) (hown:Own ea k e base w v l) (y:α) (nb c:Nat) (hx:a.eval x=.slice (some ⟨nb,0,none⟩) 1 c) (hnews:∀ j u,(ea y)[j]?=some u→w.cell? ⟨nb,j,none⟩=some u)
  (h63:l.length+1≤maxLen) (hbytes:(l.length+1)*bytes≤140737488355328) (hbase:base≤w.heap.size)
  (h:∀ v' w',Own ea k e base w' v' (l++[y])→Ext (fun b=>v.ownBlock=some b) w w'→wpListIn F n P ops Q rest (a.put o.dst v') w'):wpListIn F n P ops Q (o :: rest) a w:=by
 refine wpListIn_append_own w hgd s x t ho base e i z k bytes ht hi hz hsize hby hzs hk0 v l.length (l.flatMap ea) hs hown ⟨nb,0,none⟩ 1 c (ea y) hx (by rw[hk,Nat.one_mul]) (fun j u hj=>?_) (h1 y) h63 hbytes hbase (fun v' w' h2 h3 _=>h v' w' ?_ (Ext.of_grown h3))
 ·have:=hnews j u hj
  rw[show (Addr.add ⟨nb,0,none⟩ j)=⟨nb,j,none⟩ from by unfold Addr.add;split <;> simp_all]
  exact this
 ·unfold Own
  rw[List.length_append,List.flatMap_append]
  simpa using h2
end
end Go.Proofs.YtgmdimbiipemhaaGreatDoor
