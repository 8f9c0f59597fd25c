/- OplogAnew, part 12 of what the proof leans on (made short by a program). -/
import Derived.Test.YtgmdimbiipemhaaGreatDoorAnZ11
set_option linter.unusedSimpArgs false
set_option linter.unusedVariables false
set_option linter.unusedSectionVars false
set_option maxRecDepth 20000
set_option maxHeartbeats 30000000
namespace Go.Proofs.YtgmdimbiipemhaaGreatDoor
open Go.RowKit Go.Deep
def OpD.putF (o:OpD) (c:Nat) (v:Int):OpD:=o.withF fun j=>if j=c then v else fld o j
theorem Yx (o o':OpD) (w:World) {T:TypeId} (hT:∀ w,(sizeOf T).run Tryz.prog w=.ok 1 w) (off:Nat) (v:Int) (hoff:off<26) (ho:o'.cells=o.cells.take off++[.int .i64 v]++o.cells.drop (off+1)) :
  ∃ W3 W4,(Instr.storeAt T (.pointer (some ⟨w.heap.size,off,none⟩)) (.int .i64 v)).run Tryz.prog ((w.alloc (.cells o.cells.toArray 68)).alloc (.cells YI.cells.toArray 68))=.ok () W3∧OB w.heap.size o' W3 ∧
   (Instr.storeAt 68 (.pointer (some ⟨w.heap.size+1,0,none⟩)) (.agg o'.cells.toArray)).run Tryz.prog W3=.ok () W4∧OB (w.heap.size+1) o' W4∧Below w.heap.size w W4:=by
 have hb:OB w.heap.size o (w.alloc (.cells o.cells.toArray 68)):=OB.new w o
 have hb1:OB w.heap.size o ((w.alloc (.cells o.cells.toArray 68)).alloc (.cells YI.cells.toArray 68)):=hb.alloc _
 have hb2:OB (w.heap.size+1) YI ((w.alloc (.cells o.cells.toArray 68)).alloc (.cells YI.cells.toArray 68)):=by
  have:=OB.new (w.alloc (.cells o.cells.toArray 68)) YI
  rwa [show (w.alloc (.cells o.cells.toArray 68)).heap.size=w.heap.size+1 by simp] at this
 have hw:Below w.heap.size w ((w.alloc (.cells o.cells.toArray 68)).alloc (.cells YI.cells.toArray 68)):=((Below.refl _ _).alloc (Nat.le_refl _) _).alloc (by simp) _
 generalize (w.alloc (.cells o.cells.toArray 68)).alloc (.cells YI.cells.toArray 68)=W2 at hb1 hb2 hw ⊢
 obtain ⟨W3,h1,h2,h3⟩:=OB.store hb1 (T:=T) (k:=1) hT (off:=off) (v:=.int .i64 v) (vs:=[.int .i64 v]) rfl rfl (by intro u hu;simp only[List.mem_cons,List.not_mem_nil,or_false] at hu;rcases hu with rfl;rfl) (by omega) o' ho
 have hb3:OB (w.heap.size+1) YI W3:=hb2.ext h3 (by omega)
 obtain ⟨W4,k1,k2,k3⟩:=OB.store hb3 (T:=68) XO.size (off:=0) (v:=.agg o'.cells.toArray) (vs:=o'.cells) rfl rfl (OpD.one _) (by omega) o' (by
  rw[List.take_zero,List.nil_append,Nat.zero_add,List.drop_eq_nil_of_le (by rw[OpD.len];omega),List.append_nil])
 refine ⟨W3,W4,h1,h2,k1,k2,?_⟩
 have e3:=Ext.new hw h3 (fun i hi _ e=>by omega) hw.size
 exact Ext.new e3 k3 (fun i hi _ e=>by omega) e3.size
theorem Z82 (o:OpD) (v:Int) (w:World):Calls Tryz.prog 58 #[o.val,.int .i64 0,.int .i64 v] w fun e w'=>e=.returned (o.putF 0 v).val∧Below w.heap.size w w':=by
 obtain ⟨W3,W4,h1,h2,h3,h4,h5⟩:=Yx o (o.putF 0 v) w (T:=3) YE 0 v (by omega) rfl
 unfold OpD.val
 generalize o.putF 0 v=x at h2 h3 h4 ⊢
 have hl:=h2.whole
 have hr:=h4.whole
 have HB:=Lib.hid h5
 have HL:=Lib.hid hl
 have H3:=Lib.hid h3
 have H1:=Lib.hid h1
 have HR:=Lib.hid hr
 clear hl h3 h2 h4 h1 hr h5
 go_enter Tryz.func58,Tryz.ntmps58
 go_wp2_with (first|(refine Z2 (T:=3) (v:=.int .i64 v) rfl rfl rfl rfl H1.out ?_)|(refine Zp (T:=68) (v:=.agg x.cells.toArray) rfl rfl rfl HL.out ?_)|(refine Z2 (T:=68) (v:=.agg x.cells.toArray) rfl rfl rfl rfl H3.out ?_))
 refine bodyPost_ret (v:=.agg x.cells.toArray) (by rw[Zo rfl];first|exact HR.out|(have hr:=HR.out;go_simp;exact hr)) rfl ?_
 exact ⟨rfl,HB.out⟩
theorem Z7B (o:OpD) (v:Int) (w:World):Calls Tryz.prog 58 #[o.val,.int .i64 1,.int .i64 v] w fun e w'=>e=.returned (o.putF 1 v).val∧Below w.heap.size w w':=by
 obtain ⟨W3,W4,h1,h2,h3,h4,h5⟩:=Yx o (o.putF 1 v) w (T:=3) YE 1 v (by omega) rfl
 unfold OpD.val
 generalize o.putF 1 v=x at h2 h3 h4 ⊢
 have hl:=h2.whole
 have hr:=h4.whole
 have HB:=Lib.hid h5
 have HL:=Lib.hid hl
 have H3:=Lib.hid h3
 have H1:=Lib.hid h1
 have HR:=Lib.hid hr
 clear hl h3 h2 h4 h1 hr h5
 go_enter Tryz.func58,Tryz.ntmps58
 go_wp2_with (first|(refine Z2 (T:=3) (v:=.int .i64 v) rfl rfl rfl rfl H1.out ?_)|(refine Zp (T:=68) (v:=.agg x.cells.toArray) rfl rfl rfl HL.out ?_)|(refine Z2 (T:=68) (v:=.agg x.cells.toArray) rfl rfl rfl rfl H3.out ?_))
 refine bodyPost_ret (v:=.agg x.cells.toArray) (by rw[Zo rfl];first|exact HR.out|(have hr:=HR.out;go_simp;exact hr)) rfl ?_
 exact ⟨rfl,HB.out⟩
theorem Z7Z (o:OpD) (v:Int) (w:World):Calls Tryz.prog 58 #[o.val,.int .i64 2,.int .i64 v] w fun e w'=>e=.returned (o.putF 2 v).val∧Below w.heap.size w w':=by
 obtain ⟨W3,W4,h1,h2,h3,h4,h5⟩:=Yx o (o.putF 2 v) w (T:=3) YE 2 v (by omega) rfl
 unfold OpD.val
 generalize o.putF 2 v=x at h2 h3 h4 ⊢
 have hl:=h2.whole
 have hr:=h4.whole
 have HB:=Lib.hid h5
 have HL:=Lib.hid hl
 have H3:=Lib.hid h3
 have H1:=Lib.hid h1
 have HR:=Lib.hid hr
 clear hl h3 h2 h4 h1 hr h5
 go_enter Tryz.func58,Tryz.ntmps58
 go_wp2_with (first|(refine Z2 (T:=3) (v:=.int .i64 v) rfl rfl rfl rfl H1.out ?_)|(refine Zp (T:=68) (v:=.agg x.cells.toArray) rfl rfl rfl HL.out ?_)|(refine Z2 (T:=68) (v:=.agg x.cells.toArray) rfl rfl rfl rfl H3.out ?_))
 refine bodyPost_ret (v:=.agg x.cells.toArray) (by rw[Zo rfl];first|exact HR.out|(have hr:=HR.out;go_simp;exact hr)) rfl ?_
 exact ⟨rfl,HB.out⟩
theorem Z7L (o:OpD) (v:Int) (w:World):Calls Tryz.prog 58 #[o.val,.int .i64 3,.int .i64 v] w fun e w'=>e=.returned (o.putF 3 v).val∧Below w.heap.size w w':=by
 obtain ⟨W3,W4,h1,h2,h3,h4,h5⟩:=Yx o (o.putF 3 v) w (T:=3) YE 3 v (by omega) rfl
 unfold OpD.val
 generalize o.putF 3 v=x at h2 h3 h4 ⊢
 have hl:=h2.whole
 have hr:=h4.whole
 have HB:=Lib.hid h5
 have HL:=Lib.hid hl
 have H3:=Lib.hid h3
 have H1:=Lib.hid h1
 have HR:=Lib.hid hr
 clear hl h3 h2 h4 h1 hr h5
 go_enter Tryz.func58,Tryz.ntmps58
 go_wp2_with (first|(refine Z2 (T:=3) (v:=.int .i64 v) rfl rfl rfl rfl H1.out ?_)|(refine Zp (T:=68) (v:=.agg x.cells.toArray) rfl rfl rfl HL.out ?_)|(refine Z2 (T:=68) (v:=.agg x.cells.toArray) rfl rfl rfl rfl H3.out ?_))
 refine bodyPost_ret (v:=.agg x.cells.toArray) (by rw[Zo rfl];first|exact HR.out|(have hr:=HR.out;go_simp;exact hr)) rfl ?_
 exact ⟨rfl,HB.out⟩
theorem Z7D (o:OpD) (v:Int) (w:World):Calls Tryz.prog 58 #[o.val,.int .i64 4,.int .i64 v] w fun e w'=>e=.returned (o.putF 4 v).val∧Below w.heap.size w w':=by
 obtain ⟨W3,W4,h1,h2,h3,h4,h5⟩:=Yx o (o.putF 4 v) w (T:=3) YE 4 v (by omega) rfl
 unfold OpD.val
 generalize o.putF 4 v=x at h2 h3 h4 ⊢
 have hl:=h2.whole
 have hr:=h4.whole
 have HB:=Lib.hid h5
 have HL:=Lib.hid hl
 have H3:=Lib.hid h3
 have H1:=Lib.hid h1
 have HR:=Lib.hid hr
 clear hl h3 h2 h4 h1 hr h5
 go_enter Tryz.func58,Tryz.ntmps58
 go_wp2_with (first|(refine Z2 (T:=3) (v:=.int .i64 v) rfl rfl rfl rfl H1.out ?_)|(refine Zp (T:=68) (v:=.agg x.cells.toArray) rfl rfl rfl HL.out ?_)|(refine Z2 (T:=68) (v:=.agg x.cells.toArray) rfl rfl rfl rfl H3.out ?_))
 refine bodyPost_ret (v:=.agg x.cells.toArray) (by rw[Zo rfl];first|exact HR.out|(have hr:=HR.out;go_simp;exact hr)) rfl ?_
 exact ⟨rfl,HB.out⟩
theorem Z7R (o:OpD) (v:Int) (w:World):Calls Tryz.prog 58 #[o.val,.int .i64 5,.int .i64 v] w fun e w'=>e=.returned (o.putF 5 v).val∧Below w.heap.size w w':=by
 obtain ⟨W3,W4,h1,h2,h3,h4,h5⟩:=Yx o (o.putF 5 v) w (T:=3) YE 5 v (by omega) rfl
 unfold OpD.val
 generalize o.putF 5 v=x at h2 h3 h4 ⊢
 have hl:=h2.whole
 have hr:=h4.whole
 have HB:=Lib.hid h5
 have HL:=Lib.hid hl
 have H3:=Lib.hid h3
 have H1:=Lib.hid h1
 have HR:=Lib.hid hr
 clear hl h3 h2 h4 h1 hr h5
 go_enter Tryz.func58,Tryz.ntmps58
 go_wp2_with (first|(refine Z2 (T:=3) (v:=.int .i64 v) rfl rfl rfl rfl H1.out ?_)|(refine Zp (T:=68) (v:=.agg x.cells.toArray) rfl rfl rfl HL.out ?_)|(refine Z2 (T:=68) (v:=.agg x.cells.toArray) rfl rfl rfl rfl H3.out ?_))
 refine bodyPost_ret (v:=.agg x.cells.toArray) (by rw[Zo rfl];first|exact HR.out|(have hr:=HR.out;go_simp;exact hr)) rfl ?_
 exact ⟨rfl,HB.out⟩
theorem Z7y (o:OpD) (v:Int) (w:World):Calls Tryz.prog 58 #[o.val,.int .i64 6,.int .i64 v] w fun e w'=>e=.returned (o.putF 6 v).val∧Below w.heap.size w w':=by
 obtain ⟨W3,W4,h1,h2,h3,h4,h5⟩:=Yx o (o.putF 6 v) w (T:=3) YE 6 v (by omega) rfl
 unfold OpD.val
 generalize o.putF 6 v=x at h2 h3 h4 ⊢
 have hl:=h2.whole
 have hr:=h4.whole
 have HB:=Lib.hid h5
 have HL:=Lib.hid hl
 have H3:=Lib.hid h3
 have H1:=Lib.hid h1
 have HR:=Lib.hid hr
 clear hl h3 h2 h4 h1 hr h5
 go_enter Tryz.func58,Tryz.ntmps58
 go_wp2_with (first|(refine Z2 (T:=3) (v:=.int .i64 v) rfl rfl rfl rfl H1.out ?_)|(refine Zp (T:=68) (v:=.agg x.cells.toArray) rfl rfl rfl HL.out ?_)|(refine Z2 (T:=68) (v:=.agg x.cells.toArray) rfl rfl rfl rfl H3.out ?_))
 refine bodyPost_ret (v:=.agg x.cells.toArray) (by rw[Zo rfl];first|exact HR.out|(have hr:=HR.out;go_simp;exact hr)) rfl ?_
 exact ⟨rfl,HB.out⟩
theorem Z7K (o:OpD) (v:Int) (w:World):Calls Tryz.prog 58 #[o.val,.int .i64 7,.int .i64 v] w fun e w'=>e=.returned (o.putF 7 v).val∧Below w.heap.size w w':=by
 obtain ⟨W3,W4,h1,h2,h3,h4,h5⟩:=Yx o (o.putF 7 v) w (T:=3) YE 7 v (by omega) rfl
 unfold OpD.val
 generalize o.putF 7 v=x at h2 h3 h4 ⊢
 have hl:=h2.whole
 have hr:=h4.whole
 have HB:=Lib.hid h5
 have HL:=Lib.hid hl
 have H3:=Lib.hid h3
 have H1:=Lib.hid h1
 have HR:=Lib.hid hr
 clear hl h3 h2 h4 h1 hr h5
 go_enter Tryz.func58,Tryz.ntmps58
 go_wp2_with (first|(refine Z2 (T:=3) (v:=.int .i64 v) rfl rfl rfl rfl H1.out ?_)|(refine Zp (T:=68) (v:=.agg x.cells.toArray) rfl rfl rfl HL.out ?_)|(refine Z2 (T:=68) (v:=.agg x.cells.toArray) rfl rfl rfl rfl H3.out ?_))
 refine bodyPost_ret (v:=.agg x.cells.toArray) (by rw[Zo rfl];first|exact HR.out|(have hr:=HR.out;go_simp;exact hr)) rfl ?_
 exact ⟨rfl,HB.out⟩
theorem Z7z (o:OpD) (v:Int) (w:World):Calls Tryz.prog 58 #[o.val,.int .i64 8,.int .i64 v] w fun e w'=>e=.returned (o.putF 8 v).val∧Below w.heap.size w w':=by
 obtain ⟨W3,W4,h1,h2,h3,h4,h5⟩:=Yx o (o.putF 8 v) w (T:=3) YE 8 v (by omega) rfl
 unfold OpD.val
 generalize o.putF 8 v=x at h2 h3 h4 ⊢
 have hl:=h2.whole
 have hr:=h4.whole
 have HB:=Lib.hid h5
 have HL:=Lib.hid hl
 have H3:=Lib.hid h3
 have H1:=Lib.hid h1
 have HR:=Lib.hid hr
 clear hl h3 h2 h4 h1 hr h5
 go_enter Tryz.func58,Tryz.ntmps58
 go_wp2_with (first|(refine Z2 (T:=3) (v:=.int .i64 v) rfl rfl rfl rfl H1.out ?_)|(refine Zp (T:=68) (v:=.agg x.cells.toArray) rfl rfl rfl HL.out ?_)|(refine Z2 (T:=68) (v:=.agg x.cells.toArray) rfl rfl rfl rfl H3.out ?_))
 refine bodyPost_ret (v:=.agg x.cells.toArray) (by rw[Zo rfl];first|exact HR.out|(have hr:=HR.out;go_simp;exact hr)) rfl ?_
 exact ⟨rfl,HB.out⟩
theorem Z7Q (o:OpD) (v:Int) (w:World):Calls Tryz.prog 58 #[o.val,.int .i64 9,.int .i64 v] w fun e w'=>e=.returned (o.putF 9 v).val∧Below w.heap.size w w':=by
 obtain ⟨W3,W4,h1,h2,h3,h4,h5⟩:=Yx o (o.putF 9 v) w (T:=3) YE 9 v (by omega) rfl
 unfold OpD.val
 generalize o.putF 9 v=x at h2 h3 h4 ⊢
 have hl:=h2.whole
 have hr:=h4.whole
 have HB:=Lib.hid h5
 have HL:=Lib.hid hl
 have H3:=Lib.hid h3
 have H1:=Lib.hid h1
 have HR:=Lib.hid hr
 clear hl h3 h2 h4 h1 hr h5
 go_enter Tryz.func58,Tryz.ntmps58
 go_wp2_with (first|(refine Z2 (T:=3) (v:=.int .i64 v) rfl rfl rfl rfl H1.out ?_)|(refine Zp (T:=68) (v:=.agg x.cells.toArray) rfl rfl rfl HL.out ?_)|(refine Z2 (T:=68) (v:=.agg x.cells.toArray) rfl rfl rfl rfl H3.out ?_))
 refine bodyPost_ret (v:=.agg x.cells.toArray) (by rw[Zo rfl];first|exact HR.out|(have hr:=HR.out;go_simp;exact hr)) rfl ?_
 exact ⟨rfl,HB.out⟩
theorem Z6K (o:OpD) (v:Int) (w:World):Calls Tryz.prog 58 #[o.val,.int .i64 10,.int .i64 v] w fun e w'=>e=.returned (o.putF 10 v).val∧Below w.heap.size w w':=by
 obtain ⟨W3,W4,h1,h2,h3,h4,h5⟩:=Yx o (o.putF 10 v) w (T:=63) Z6O 10 v (by omega) rfl
 unfold OpD.val
 generalize o.putF 10 v=x at h2 h3 h4 ⊢
 have hl:=h2.whole
 have hr:=h4.whole
 have HB:=Lib.hid h5
 have HL:=Lib.hid hl
 have H3:=Lib.hid h3
 have H1:=Lib.hid h1
 have HR:=Lib.hid hr
 clear hl h3 h2 h4 h1 hr h5
 go_enter Tryz.func58,Tryz.ntmps58
 go_wp2_with (first|(refine Z2 (T:=63) (v:=.int .i64 v) rfl rfl rfl rfl H1.out ?_)|(refine Zp (T:=68) (v:=.agg x.cells.toArray) rfl rfl rfl HL.out ?_)|(refine Z2 (T:=68) (v:=.agg x.cells.toArray) rfl rfl rfl rfl H3.out ?_))
 refine bodyPost_ret (v:=.agg x.cells.toArray) (by rw[Zo rfl];first|exact HR.out|(have hr:=HR.out;go_simp;exact hr)) rfl ?_
 exact ⟨rfl,HB.out⟩
theorem Z6Q (o:OpD) (v:Int) (w:World):Calls Tryz.prog 58 #[o.val,.int .i64 11,.int .i64 v] w fun e w'=>e=.returned (o.putF 11 v).val∧Below w.heap.size w w':=by
 obtain ⟨W3,W4,h1,h2,h3,h4,h5⟩:=Yx o (o.putF 11 v) w (T:=3) YE 11 v (by omega) rfl
 unfold OpD.val
 generalize o.putF 11 v=x at h2 h3 h4 ⊢
 have hl:=h2.whole
 have hr:=h4.whole
 have HB:=Lib.hid h5
 have HL:=Lib.hid hl
 have H3:=Lib.hid h3
 have H1:=Lib.hid h1
 have HR:=Lib.hid hr
 clear hl h3 h2 h4 h1 hr h5
 go_enter Tryz.func58,Tryz.ntmps58
 go_wp2_with (first|(refine Z2 (T:=3) (v:=.int .i64 v) rfl rfl rfl rfl H1.out ?_)|(refine Zp (T:=68) (v:=.agg x.cells.toArray) rfl rfl rfl HL.out ?_)|(refine Z2 (T:=68) (v:=.agg x.cells.toArray) rfl rfl rfl rfl H3.out ?_))
 refine bodyPost_ret (v:=.agg x.cells.toArray) (by rw[Zo rfl];first|exact HR.out|(have hr:=HR.out;go_simp;exact hr)) rfl ?_
 exact ⟨rfl,HB.out⟩
theorem Z7s (o:OpD) (v:Int) (w:World):Calls Tryz.prog 58 #[o.val,.int .i64 12,.int .i64 v] w fun e w'=>e=.returned (o.putF 12 v).val∧Below w.heap.size w w':=by
 obtain ⟨W3,W4,h1,h2,h3,h4,h5⟩:=Yx o (o.putF 12 v) w (T:=3) YE 12 v (by omega) rfl
 unfold OpD.val
 generalize o.putF 12 v=x at h2 h3 h4 ⊢
 have hl:=h2.whole
 have hr:=h4.whole
 have HB:=Lib.hid h5
 have HL:=Lib.hid hl
 have H3:=Lib.hid h3
 have H1:=Lib.hid h1
 have HR:=Lib.hid hr
 clear hl h3 h2 h4 h1 hr h5
 go_enter Tryz.func58,Tryz.ntmps58
 go_wp2_with (first|(refine Z2 (T:=3) (v:=.int .i64 v) rfl rfl rfl rfl H1.out ?_)|(refine Zp (T:=68) (v:=.agg x.cells.toArray) rfl rfl rfl HL.out ?_)|(refine Z2 (T:=68) (v:=.agg x.cells.toArray) rfl rfl rfl rfl H3.out ?_))
 refine bodyPost_ret (v:=.agg x.cells.toArray) (by rw[Zo rfl];first|exact HR.out|(have hr:=HR.out;go_simp;exact hr)) rfl ?_
 exact ⟨rfl,HB.out⟩
theorem Z7e (o:OpD) (v:Int) (w:World):Calls Tryz.prog 58 #[o.val,.int .i64 13,.int .i64 v] w fun e w'=>e=.returned (o.putF 13 v).val∧Below w.heap.size w w':=by
 obtain ⟨W3,W4,h1,h2,h3,h4,h5⟩:=Yx o (o.putF 13 v) w (T:=64) Z2A 13 v (by omega) rfl
 unfold OpD.val
 generalize o.putF 13 v=x at h2 h3 h4 ⊢
 have hl:=h2.whole
 have hr:=h4.whole
 have HB:=Lib.hid h5
 have HL:=Lib.hid hl
 have H3:=Lib.hid h3
 have H1:=Lib.hid h1
 have HR:=Lib.hid hr
 clear hl h3 h2 h4 h1 hr h5
 go_enter Tryz.func58,Tryz.ntmps58
 go_wp2_with (first|(refine Z2 (T:=64) (v:=.int .i64 v) rfl rfl rfl rfl H1.out ?_)|(refine Zp (T:=68) (v:=.agg x.cells.toArray) rfl rfl rfl HL.out ?_)|(refine Z2 (T:=68) (v:=.agg x.cells.toArray) rfl rfl rfl rfl H3.out ?_))
 refine bodyPost_ret (v:=.agg x.cells.toArray) (by rw[Zo rfl];first|exact HR.out|(have hr:=HR.out;go_simp;exact hr)) rfl ?_
 exact ⟨rfl,HB.out⟩
theorem Z6P (o:OpD) (v:Int) (w:World):Calls Tryz.prog 58 #[o.val,.int .i64 14,.int .i64 v] w fun e w'=>e=.returned (o.putF 14 v).val∧Below w.heap.size w w':=by
 obtain ⟨W3,W4,h1,h2,h3,h4,h5⟩:=Yx o (o.putF 14 v) w (T:=3) YE 14 v (by omega) rfl
 unfold OpD.val
 generalize o.putF 14 v=x at h2 h3 h4 ⊢
 have hl:=h2.whole
 have hr:=h4.whole
 have HB:=Lib.hid h5
 have HL:=Lib.hid hl
 have H3:=Lib.hid h3
 have H1:=Lib.hid h1
 have HR:=Lib.hid hr
 clear hl h3 h2 h4 h1 hr h5
 go_enter Tryz.func58,Tryz.ntmps58
 go_wp2_with (first|(refine Z2 (T:=3) (v:=.int .i64 v) rfl rfl rfl rfl H1.out ?_)|(refine Zp (T:=68) (v:=.agg x.cells.toArray) rfl rfl rfl HL.out ?_)|(refine Z2 (T:=68) (v:=.agg x.cells.toArray) rfl rfl rfl rfl H3.out ?_))
 refine bodyPost_ret (v:=.agg x.cells.toArray) (by rw[Zo rfl];first|exact HR.out|(have hr:=HR.out;go_simp;exact hr)) rfl ?_
 exact ⟨rfl,HB.out⟩
theorem Z7m (o:OpD) (v:Int) (w:World):Calls Tryz.prog 58 #[o.val,.int .i64 15,.int .i64 v] w fun e w'=>e=.returned (o.putF 15 v).val∧Below w.heap.size w w':=by
 obtain ⟨W3,W4,h1,h2,h3,h4,h5⟩:=Yx o (o.putF 15 v) w (T:=3) YE 15 v (by omega) rfl
 unfold OpD.val
 generalize o.putF 15 v=x at h2 h3 h4 ⊢
 have hl:=h2.whole
 have hr:=h4.whole
 have HB:=Lib.hid h5
 have HL:=Lib.hid hl
 have H3:=Lib.hid h3
 have H1:=Lib.hid h1
 have HR:=Lib.hid hr
 clear hl h3 h2 h4 h1 hr h5
 go_enter Tryz.func58,Tryz.ntmps58
 go_wp2_with (first|(refine Z2 (T:=3) (v:=.int .i64 v) rfl rfl rfl rfl H1.out ?_)|(refine Zp (T:=68) (v:=.agg x.cells.toArray) rfl rfl rfl HL.out ?_)|(refine Z2 (T:=68) (v:=.agg x.cells.toArray) rfl rfl rfl rfl H3.out ?_))
 refine bodyPost_ret (v:=.agg x.cells.toArray) (by rw[Zo rfl];first|exact HR.out|(have hr:=HR.out;go_simp;exact hr)) rfl ?_
 exact ⟨rfl,HB.out⟩
theorem Z78 (o:OpD) (v:Int) (w:World):Calls Tryz.prog 58 #[o.val,.int .i64 16,.int .i64 v] w fun e w'=>e=.returned (o.putF 16 v).val∧Below w.heap.size w w':=by
 obtain ⟨W3,W4,h1,h2,h3,h4,h5⟩:=Yx o (o.putF 16 v) w (T:=3) YE 16 v (by omega) rfl
 unfold OpD.val
 generalize o.putF 16 v=x at h2 h3 h4 ⊢
 have hl:=h2.whole
 have hr:=h4.whole
 have HB:=Lib.hid h5
 have HL:=Lib.hid hl
 have H3:=Lib.hid h3
 have H1:=Lib.hid h1
 have HR:=Lib.hid hr
 clear hl h3 h2 h4 h1 hr h5
 go_enter Tryz.func58,Tryz.ntmps58
 go_wp2_with (first|(refine Z2 (T:=3) (v:=.int .i64 v) rfl rfl rfl rfl H1.out ?_)|(refine Zp (T:=68) (v:=.agg x.cells.toArray) rfl rfl rfl HL.out ?_)|(refine Z2 (T:=68) (v:=.agg x.cells.toArray) rfl rfl rfl rfl H3.out ?_))
 refine bodyPost_ret (v:=.agg x.cells.toArray) (by rw[Zo rfl];first|exact HR.out|(have hr:=HR.out;go_simp;exact hr)) rfl ?_
 exact ⟨rfl,HB.out⟩
theorem Z6M (o:OpD) (v:Int) (w:World):Calls Tryz.prog 58 #[o.val,.int .i64 17,.int .i64 v] w fun e w'=>e=.returned (o.putF 17 v).val∧Below w.heap.size w w':=by
 obtain ⟨W3,W4,h1,h2,h3,h4,h5⟩:=Yx o (o.putF 17 v) w (T:=3) YE 20 v (by omega) rfl
 unfold OpD.val
 generalize o.putF 17 v=x at h2 h3 h4 ⊢
 have hl:=h2.whole
 have hr:=h4.whole
 have HB:=Lib.hid h5
 have HL:=Lib.hid hl
 have H3:=Lib.hid h3
 have H1:=Lib.hid h1
 have HR:=Lib.hid hr
 clear hl h3 h2 h4 h1 hr h5
 go_enter Tryz.func58,Tryz.ntmps58
 go_wp2_with (first|(refine Z2 (T:=3) (v:=.int .i64 v) rfl rfl rfl rfl H1.out ?_)|(refine Zp (T:=68) (v:=.agg x.cells.toArray) rfl rfl rfl HL.out ?_)|(refine Z2 (T:=68) (v:=.agg x.cells.toArray) rfl rfl rfl rfl H3.out ?_))
 refine bodyPost_ret (v:=.agg x.cells.toArray) (by rw[Zo rfl];first|exact HR.out|(have hr:=HR.out;go_simp;exact hr)) rfl ?_
 exact ⟨rfl,HB.out⟩
theorem Z7b (o:OpD) (v:Int) (w:World):Calls Tryz.prog 58 #[o.val,.int .i64 18,.int .i64 v] w fun e w'=>e=.returned (o.putF 18 v).val∧Below w.heap.size w w':=by
 obtain ⟨W3,W4,h1,h2,h3,h4,h5⟩:=Yx o (o.putF 18 v) w (T:=3) YE 21 v (by omega) rfl
 unfold OpD.val
 generalize o.putF 18 v=x at h2 h3 h4 ⊢
 have hl:=h2.whole
 have hr:=h4.whole
 have HB:=Lib.hid h5
 have HL:=Lib.hid hl
 have H3:=Lib.hid h3
 have H1:=Lib.hid h1
 have HR:=Lib.hid hr
 clear hl h3 h2 h4 h1 hr h5
 go_enter Tryz.func58,Tryz.ntmps58
 go_wp2_with (first|(refine Z2 (T:=3) (v:=.int .i64 v) rfl rfl rfl rfl H1.out ?_)|(refine Zp (T:=68) (v:=.agg x.cells.toArray) rfl rfl rfl HL.out ?_)|(refine Z2 (T:=68) (v:=.agg x.cells.toArray) rfl rfl rfl rfl H3.out ?_))
 refine bodyPost_ret (v:=.agg x.cells.toArray) (by rw[Zo rfl];first|exact HR.out|(have hr:=HR.out;go_simp;exact hr)) rfl ?_
 exact ⟨rfl,HB.out⟩
theorem Z7k (o:OpD) (v:Int) (w:World):Calls Tryz.prog 58 #[o.val,.int .i64 19,.int .i64 v] w fun e w'=>e=.returned (o.putF 19 v).val∧Below w.heap.size w w':=by
 obtain ⟨W3,W4,h1,h2,h3,h4,h5⟩:=Yx o (o.putF 19 v) w (T:=3) YE 23 v (by omega) rfl
 unfold OpD.val
 generalize o.putF 19 v=x at h2 h3 h4 ⊢
 have hl:=h2.whole
 have hr:=h4.whole
 have HB:=Lib.hid h5
 have HL:=Lib.hid hl
 have H3:=Lib.hid h3
 have H1:=Lib.hid h1
 have HR:=Lib.hid hr
 clear hl h3 h2 h4 h1 hr h5
 go_enter Tryz.func58,Tryz.ntmps58
 go_wp2_with (first|(refine Z2 (T:=3) (v:=.int .i64 v) rfl rfl rfl rfl H1.out ?_)|(refine Zp (T:=68) (v:=.agg x.cells.toArray) rfl rfl rfl HL.out ?_)|(refine Z2 (T:=68) (v:=.agg x.cells.toArray) rfl rfl rfl rfl H3.out ?_))
 refine bodyPost_ret (v:=.agg x.cells.toArray) (by rw[Zo rfl];first|exact HR.out|(have hr:=HR.out;go_simp;exact hr)) rfl ?_
 exact ⟨rfl,HB.out⟩
theorem Z7j (o:OpD) (v:Int) (w:World):Calls Tryz.prog 58 #[o.val,.int .i64 20,.int .i64 v] w fun e w'=>e=.returned (o.putF 20 v).val∧Below w.heap.size w w':=by
 obtain ⟨W3,W4,h1,h2,h3,h4,h5⟩:=Yx o (o.putF 20 v) w (T:=3) YE 24 v (by omega) rfl
 unfold OpD.val
 generalize o.putF 20 v=x at h2 h3 h4 ⊢
 have hl:=h2.whole
 have hr:=h4.whole
 have HB:=Lib.hid h5
 have HL:=Lib.hid hl
 have H3:=Lib.hid h3
 have H1:=Lib.hid h1
 have HR:=Lib.hid hr
 clear hl h3 h2 h4 h1 hr h5
 go_enter Tryz.func58,Tryz.ntmps58
 go_wp2_with (first|(refine Z2 (T:=3) (v:=.int .i64 v) rfl rfl rfl rfl H1.out ?_)|(refine Zp (T:=68) (v:=.agg x.cells.toArray) rfl rfl rfl HL.out ?_)|(refine Z2 (T:=68) (v:=.agg x.cells.toArray) rfl rfl rfl rfl H3.out ?_))
 refine bodyPost_ret (v:=.agg x.cells.toArray) (by rw[Zo rfl];first|exact HR.out|(have hr:=HR.out;go_simp;exact hr)) rfl ?_
 exact ⟨rfl,HB.out⟩
theorem SZ (o:OpD) (c:Nat) (hc:c<21) (v:Int) (w:World):Calls Tryz.prog 58 #[o.val,.int .i64 c,.int .i64 v] w fun e w'=>e=.returned (o.putF c v).val∧Below w.heap.size w w':=by
 rcases (by omega:c=0∨c=1∨c=2∨c=3∨c=4∨c=5∨c=6∨c=7∨c=8∨c=9∨c=10∨c=11∨c=12∨c=13∨c=14∨c=15∨c=16∨c=17∨c=18∨c=19∨c=20) with rfl|rfl|rfl|rfl|rfl|rfl|rfl|rfl|rfl|rfl|rfl|rfl|rfl|rfl|rfl|rfl|rfl|rfl|rfl|rfl|rfl
 ·exact Z82 o v w
 ·exact Z7B o v w
 ·exact Z7Z o v w
 ·exact Z7L o v w
 ·exact Z7D o v w
 ·exact Z7R o v w
 ·exact Z7y o v w
 ·exact Z7K o v w
 ·exact Z7z o v w
 ·exact Z7Q o v w
 ·exact Z6K o v w
 ·exact Z6Q o v w
 ·exact Z7s o v w
 ·exact Z7e o v w
 ·exact Z6P o v w
 ·exact Z7m o v w
 ·exact Z78 o v w
 ·exact Z6M o v w
 ·exact Z7b o v w
 ·exact Z7k o v w
 ·exact Z7j o v w
def Z2l (d:List Int) (i:Nat) (S:Int):Prop:=(i=0∧S=0)∨∃ j,i=j+1∧(Ye d)[j]?=some (Yb S)
theorem Z2l.next {d:List Int} {i:Nat} {S x:Int} (h:Z2l d i S) (hx:d[i]?=some x) (hin:-9223372036854775808≤x∧x≤9223372036854775807):(Ye d)[i]?=some (IntKind.i64.wrap (IntKind.u64.wrap (S+IntKind.u64.wrap x))):=by
 rw[U4,Yc,Yc]
 rcases h with ⟨rfl,rfl⟩|⟨j,rfl,h⟩
 ·rw[show Yb ((0+x % 18446744073709551616) % 18446744073709551616)=x by unfold Yb;omega]
  exact Z0c hx
 ·rw[Z1I hx h]
  congr 1
  unfold Yb
  omega
theorem Own.lower8 {α:Type} {ea:α→List Value} {k:Nat} {e:TypeId} {B C:Nat} {w:World} {v:Value} {l:List α} (h:Own ea k e C w v l) (hb:B≤C):Own ea k e B w v l:=by
 obtain ⟨h1,h2⟩:=h
 refine ⟨h1,?_⟩
 rcases h2 with h2|⟨g,c,cs,e1,h3,h4⟩
 ·exact .inl h2
 ·exact .inr ⟨g,c,cs,e1,Nat.le_trans hb h3,h4⟩
theorem Tq (v:Value) (b:List UInt8) (n:Nat) (w:World) (h:Z0 u8c 1 w v b) (hn0:n≤65536):Calls Tryz.prog 57 #[v,.int .i64 n] w fun e w'=>Z62 w b n e w':=by
 have HC:=Jh (WH v b n w h hn0)
 clear h
 obtain ⟨i0,hi,hy0,hy1,hy2⟩:=info_parts Wa
 go_enter Tryz.func57,Tryz.ntmps57
 go_wp2_with fail
 refine HC.out.mono ?_
 rintro e w5 (⟨d,u,v5,hd,rfl,hown,hb⟩|⟨hd,rfl,hb⟩)
 ·obtain ⟨⟨sa,sn,sc⟩,e5⟩:=hown.sl
  dsimp only at e5
  subst e5
  obtain rfl:=(hown.nlen Zg).1
  have hdl:=(Ua n (by omega) none b d u).1 hd
  have hdn:d.length≤65536:=by rcases hdl with ⟨h,_⟩|⟨_,rfl,_⟩;omega;simp
  have HIN:Hid (∀ x∈d,-9223372036854775808≤x∧x≤9223372036854775807):=Jh (fun x hx=>by
   rcases hdl with ⟨_,_,h,_⟩|⟨_,rfl,_⟩
   ·exact Z3b (h x hx)
   ·simp at hx)
  have HD:=Jh (show VY n b=some (Ye d,u) from by unfold VY;rw[hd];rfl)
  have hsl:=Tj d
  have HSL:=Lib.hid hsl
  have HU:=Jh (And.intro hown hb)
  clear hd hdl hown hb hsl HC hn0
  go_wp2_with fail
  go_loopg [10,11,12] d.length (fun g lv sv iv wr=>∃ (i:Nat) (S:Int) (s:Sl),g=d.length - i∧lv=.slice s.a s.n s.cap∧sv=.int .u64 S∧iv=.int .i64 i∧i≤d.length∧Hid (Z2l d i S)∧Hid (Own Zh 1 3 w5.heap.size wr (.slice s.a s.n s.cap) ((Ye d).take i)∧Below w5.heap.size w5 wr))
  case atStart=>exact ⟨0,0,⟨none,0,0⟩,rfl,rfl,rfl,rfl,Nat.zero_le _,Jh (.inl ⟨rfl,rfl⟩),Lib.hid ⟨Own.nil,Below.refl _ _⟩⟩
  case round =>
   obtain ⟨HW,HW0⟩:∃ hw:Hid (Own Zh 1 3 w.heap.size w5 (.slice sa d.length sc) d∧Below w.heap.size w w5),True:=⟨HU,trivial⟩
   clear HU HW0
   obtain ⟨i,S,⟨ta,tn,tc⟩,hg,rfl,rfl,rfl,hil,HS,HU⟩:=hrel
   dsimp only at HU ⊢
   have HG:=Lib.hid hg
   clear hg
   by_cases hlt:i<d.length
   ·have hi1:(i:Int)<(d.length:Int):=by omega
    obtain ⟨x,hx⟩:∃ x,d[i]?=some x:=⟨_,List.getElem?_eq_getElem hlt⟩
    obtain ⟨bb,oo,rfl,c0⟩:=((HW.out.1.slice Zg).below HU.out.2).at1 hx rfl
    obtain ⟨xu,hxu⟩:=Je (IntKind.u64.wrap x)
    obtain ⟨S2,hS2⟩:=Je (IntKind.u64.wrap (S+xu))
    obtain ⟨z,hz⟩:=Je (IntKind.i64.wrap S2)
    have hnx:(Ye d)[i]?=some z:=by rw[HS.out.next hx (HIN.out x (List.mem_of_getElem? hx)),hxu,hS2,hz]
    have HNS:Hid (Z2l d (i+1) S2):=Jh (.inr ⟨i,rfl,by rw[hnx,←hz,U4]⟩)
    have htk:(Ye d).take i++[z]=(Ye d).take (i+1):=by rw[List.take_add_one,hnx];rfl
    have HTK:=Lib.hid htk
    have hbd:((Ye d).take i).length+1≤maxLen∧(((Ye d).take i).length+1)*8≤140737488355328:=by rw[List.length_take];unfold maxLen;omega
    have HBD:=Lib.hid hbd
    have hsz:=HU.out.2.size
    clear hnx htk hbd hx hlt
    go_wp2_with (at_builtin;refine Y7 rfl _ _ _ rfl i0 _ 8 Tryz.underlying100 hi hy0 hy1 hy2 rfl (by omega) Zg XF rfl (HU.out.1.alloc _) z wr.heap.size 1 rfl (Wm _ z) HBD.out.1 HBD.out.2 (by simp;omega) ?_)
    intro v' w3 hown3 hx3
    have hB3:=Ext.new (HU.out.2.alloc HU.out.2.size (.cells #[.int .i64 z] 3)) hx3 (fun i hi _ e=>by have:=(HU.out.1.blk i e).1;omega) (by simp;omega)
    rw[HTK.out] at hown3
    obtain ⟨⟨ua,un,uc⟩,e3⟩:=hown3.sl
    dsimp only at e3
    subst e3
    have HN:=Jh (And.intro hown3 hB3)
    clear hown3 hx3 hB3
    go_wp2_with fail
    go_roundg (d.length - (i+1))
    case measure=>rw[HG.out];omega
    case rel=>exact ⟨i+1,S2,⟨ua,un,uc⟩,rfl,rfl,rfl,by simp,by omega,HNS,HN⟩
   ·obtain rfl:i=d.length:=by omega
    have hi1:¬ (d.length:Int)<(d.length:Int):=by omega
    have HO:Hid (Own Zh 1 3 w.heap.size wr (.slice ta tn tc) (Ye d)∧Below w.heap.size w wr):=Jh (by have h:=HU.out;rw[←HSL.out,List.take_length] at h;exact ⟨h.1.lower8 HW.out.2.size,HW.out.2.trans (h.2.mono HW.out.2.size)⟩)
    clear hlt HU
    go_wp2_with fail
    go_ret3
    exact .inl ⟨Ye d,u,_,HD.out,rfl,HO.out.1,HO.out.2⟩
 ·have HD:=Jh (show VY n b=none from by unfold VY;rw[hd];rfl)
  have HB:=Lib.hid hb
  clear hd hb
  go_wp2_with fail
  go_ret3
  exact .inr ⟨HD.out,rfl,HB.out⟩
theorem Z3Y (v:Value) (l:List Int) (w:World) (h:Z0 Zh 1 w v l) (hn:l.length≤1000000000000) (hin:∀ x∈l,-9223372036854775808≤x∧x≤9223372036854775807):Calls Tryz.prog 160 #[v] w fun e w'=>Xv w (Zc (ZG l)) e w':=by
 obtain ⟨a,cap,rfl,hcap,hmax,-⟩:=id h
 unfold maxLen at hmax
 have HH:=Lib.hid h
 have HIN:=Lib.hid hin
 obtain ⟨i0,hi,hz0,hz1,hz2⟩:=info_parts Wa
 clear h hin
 go_enter Tryz.func160,Tryz.ntmps160
 go_wp2_with fail
 go_loopg [3,4] l.length (fun g ov iv wr=>∃ (i:Nat) (s:Sl),g=l.length - i∧ov=.slice s.a s.n s.cap∧iv=.int .i64 i∧i≤l.length∧Hid (Own Zh 1 3 w.heap.size wr (.slice s.a s.n s.cap) (ZG (l.take i))∧Below w.heap.size w wr))
 case atStart=>exact ⟨0,⟨none,0,0⟩,rfl,rfl,rfl,Nat.zero_le _,Lib.hid ⟨Own.nil,Below.refl _ _⟩⟩
 case round =>
  obtain ⟨i,⟨sa,sn,sc⟩,hg,rfl,rfl,hil,HU⟩:=hrel
  dsimp only at HU ⊢
  have HG:=Lib.hid hg
  clear hg
  have hsz:=HU.out.2.size
  have hdl:(ZG (l.take i)).length=i:=by rw[Xj,List.length_take];omega
  by_cases hlt:i<l.length
  ·have hi1:(i:Int)<(l.length:Int):=by omega
   obtain ⟨x,hx⟩:∃ x,l[i]?=some x:=⟨_,List.getElem?_eq_getElem (by omega)⟩
   obtain ⟨bb,o,rfl,c0⟩:=(HH.out.below HU.out.2).at1 hx rfl
   cases i with
   | zero =>
    have HD:Hid (ZG []++[x]=ZG (l.take 1)):=Jh (by rw[List.take_add_one,hx];simp[ZG,YP])
    have c00:wr.cell? ⟨bb,o,none⟩=some (.int .i64 x):=c0
    clear hx
    go_wp2_with (at_builtin;refine Y7 rfl _ _ _ rfl i0 _ 8 Tryz.underlying100 hi hz0 hz1 hz2 rfl (by omega) Zg XF rfl (HU.out.1.alloc _) x wr.heap.size 1 rfl (Wm _ x) (by unfold maxLen;omega) (by omega) (by simp;omega) ?_)
    intro v' w3 hown3 hx3
    have hB3:=Ext.new (HU.out.2.alloc HU.out.2.size (.cells #[.int .i64 x] 3)) hx3 (fun i hi _ e=>by have:=(HU.out.1.blk i e).1;omega) (by simp;omega)
    rw[HD.out] at hown3
    obtain ⟨⟨ua,un,uc⟩,e3⟩:=hown3.sl
    dsimp only at e3
    subst e3
    have HN:=Jh (And.intro hown3 hB3)
    clear hown3 hx3 hB3
    go_wp2_with fail
    go_roundg (l.length - 1)
    case measure=>rw[HG.out];omega
    case rel=>exact ⟨1,⟨ua,un,uc⟩,rfl,rfl,by simp,by omega,HN⟩
   | succ j =>
    obtain ⟨y,hy⟩:∃ y,l[j]?=some y:=⟨_,List.getElem?_eq_getElem (by omega)⟩
    obtain ⟨bb2,o2,e2,c1⟩:=(HH.out.below HU.out.2).at1 hy rfl
    cases e2
    have hbb:bb<w.heap.size:=by
     obtain ⟨b3,o3,e3,c3⟩:=HH.out.at1 hy rfl
     cases e3
     exact Zq c3
    have hds:=Z3W hx hy
    obtain ⟨d,hd⟩:∃ d,d=Yb (x - y):=⟨_,rfl⟩
    rw[←hd] at hds
    have hin1:=HIN.out x (List.mem_of_getElem? hx)
    have hin2:=HIN.out y (List.mem_of_getElem? hy)
    obtain ⟨xu,hxu⟩:=Je (IntKind.u64.wrap x)
    obtain ⟨yu,hyu⟩:=Je (IntKind.u64.wrap y)
    obtain ⟨du,hdu⟩:=Je (IntKind.u64.wrap (xu - yu))
    have hdd:IntKind.i64.wrap du=d:=by rw[←hdu,←hxu,←hyu,hd,U4,Yc,Yc,Yc];unfold Yb;omega
    have hj1:IntKind.i64.wrap (((j+1:Nat):Int) - 1)=(j:Int):=by rw[IntWalk.i64_in _ (by omega)];omega
    have hj0:IntKind.i64.wrap (j:Int)=(j:Int):=IntWalk.i64_in _ (by omega)
    have hj2:(j:Int)<(l.length:Int):=by omega
    have HDS:=Lib.hid hds
    clear hd hds hx hy hin1 hin2
    go_upto_region 7 with fail
    have hS0:(fun W:World=>W.cell? ⟨bb,o+(j+1),none⟩=some (.int .i64 x)∧W.cell? ⟨bb,o+j,none⟩=some (.int .i64 y)) wr.drew:=⟨c0,c1⟩
    refine Z6 (fun W:World=>W.cell? ⟨bb,o+(j+1),none⟩=some (.int .i64 x)∧W.cell? ⟨bb,o+j,none⟩=some (.int .i64 y)) (fun _=>false) (by kernel_rfl) ?_
    have HU1:Hid (Own Zh 1 3 w.heap.size wr.drew (.slice sa sn sc) (ZG (l.take (j+1)))∧Below w.heap.size w wr.drew):=Lib.hid ⟨HU.out.1.drew,HU.out.2.drew⟩
    clear HU c0 c1 hsz
    generalize wr.drew=W1 at hS0 HU1 ⊢
    refine J0 0 20 _ hS0 ?_
    try simp only[Ja]
    refine J0 1 21 _ hS0 ?_
    try simp only[Ja]
    refine J0 2 22 _ hS0 ?_
    try simp only[Ja]
    refine J0 3 23 _ hS0 ?_
    try simp only[Ja]
    refine J2 4 24 (.int .i64 x) hS0 ?_
    try simp only[Ja]
    refine J0 5 25 (.int .u64 xu) hS0 ?_
    try simp only[Ja]
    refine J0 6 26 _ hS0 ?_
    try simp only[Ja]
    refine J0 7 27 _ hS0 ?_
    try simp only[Ja]
    refine J0 8 28 (.int .i64 j) hS0 ?_
    try simp only[Ja]
    refine J0 9 29 _ hS0 ?_
    try simp only[Ja]
    refine J2 10 30 (.int .i64 y) hS0 ?_
    try simp only[Ja]
    refine J0 11 31 (.int .u64 yu) hS0 ?_
    try simp only[Ja]
    refine J0 12 32 (.int .u64 du) hS0 ?_
    try simp only[Ja]
    refine J0 13 33 (.int .i64 d) hS0 ?_
    try simp only[Ja]
    have hsz1:=HU1.out.2.size
    obtain ⟨v',w3,hr3,hown3,hx3,-⟩:=Wj (P:=Tryz.prog) 100 100 i0 _ 8 Tryz.underlying100 hi hz0 hz1 hz2 rfl (by omega) Zg XF (HU1.out.1.alloc (.cells #[.int .i64 d] 3)) d W1.heap.size 1 (Wm W1 d) (by unfold maxLen;omega) (by omega) (by simp;omega)
    obtain ⟨⟨ua,un,uc⟩,e3⟩:=hown3.sl
    dsimp only at e3
    subst e3
    have hSa:(W1.alloc (.cells #[.int .i64 d] 3)).cell? ⟨bb,o+(j+1),none⟩=some (.int .i64 x)∧(W1.alloc (.cells #[.int .i64 d] 3)).cell? ⟨bb,o+j,none⟩=some (.int .i64 y):=⟨Zt hS0.1 _,Zt hS0.2 _⟩
    have hnb:¬ (Value.slice sa sn sc).ownBlock=some bb:=fun e=>by have:=(HU1.out.1.blk bb e).1;omega
    have hS3:w3.cell? ⟨bb,o+(j+1),none⟩=some (.int .i64 x)∧w3.cell? ⟨bb,o+j,none⟩=some (.int .i64 y):=⟨hx3.keep hSa.1 hnb,hx3.keep hSa.2 hnb⟩
    have hB3:=Ext.new (HU1.out.2.alloc HU1.out.2.size (.cells #[.int .i64 d] 3)) hx3 (fun i hi _ e=>by have:=(HU1.out.1.blk i e).1;omega) (by simp;omega)
    rw[←HDS.out] at hown3
    have HN:=Jh (And.intro hown3 hB3)
    refine Zk (i:=14) (d:=some 34) (v:=.slice (some ⟨W1.heap.size,0,none⟩) 1 1) (w':=W1.alloc (.cells #[.int .i64 d] 3)) (by kernel_rfl) rfl rfl (by rfl) (by go_simp;try rfl) (fun _=>hSa) ?_
    try simp only[Ja]
    refine Zk (i:=15) (d:=some 35) (v:=.slice ua un uc) (w':=w3) (by kernel_rfl) rfl rfl (by rfl) (Xp rfl rfl rfl hr3) (fun _=>hS3) ?_
    try simp only[Ja]
    refine Zk (i:=16) (d:=some 3) (v:=.slice ua un uc) (w':=w3) (by kernel_rfl) rfl rfl (by rfl) (by go_simp;try rfl) (fun _=>hS3) ?_
    try simp only[Ja]
    refine Z3 (by kernel_rfl) ?_ _
    clear hS0 hSa hS3 hr3 hx3 hown3 hB3 HU1 hsz1
    go_wp2_with fail
    go_roundg (l.length - (j+2))
    case measure=>rw[HG.out];omega
    case rel=>exact ⟨j+2,⟨ua,un,uc⟩,rfl,rfl,by first|rfl|(simp;omega),by omega,HN⟩
  ·obtain rfl:i=l.length:=by omega
   have hi1:¬ (l.length:Int)<(l.length:Int):=by omega
   have HO:Hid (Own Zh 1 3 w.heap.size wr (.slice sa sn sc) (ZG l)∧Below w.heap.size w wr):=Lib.hid ⟨by have h1:=HU.out.1;rw[List.take_length] at h1;exact h1,HU.out.2⟩
   clear hlt HU hdl
   go_wp2_with fail
   refine (TH _ (ZG l) _ (HO.out.1.slice Zg) (by rw[Xj];exact hn) (Uj HIN.out)).mono ?_
   rintro e w5 ⟨v5,rfl,hown5,b5⟩
   have HN5:=Jh (And.intro (hown5.mono HO.out.2.size) (HO.out.2.trans (b5.mono HO.out.2.size)))
   clear hown5 b5
   go_wp2_with fail
   go_ret
   exact ⟨_,rfl,HN5.out.1,HN5.out.2⟩
theorem Qt (l:List OpD) (c:Nat):(Y8 l c).length=l.length:=by simp[Y8]
theorem Z5C {l:List OpD} {k:Nat} {x:OpD} (hx:l[k]?=some x) (c:Nat):Y8 (l.take (k+1)) c=Y8 (l.take k) c++[fld x c]:=by
 unfold Y8
 rw[List.take_add_one,hx,Option.toList_some,List.map_append]
 rfl
def Sj (l:List OpD) (c:Nat):ByteArray:=⟨(ZC l c).toArray⟩
theorem Z1S (l:List OpD) (c:Nat):(Sj l c).size=(ZC l c).length:=by
 show (ZC l c).toArray.size=_
 simp
theorem Z5K {l:List OpD} {k:Nat} {x:OpD} (hx:l[k]?=some x) (c:Nat):Sj (l.take k) c++txt x c=Sj (l.take (k+1)) c:=by
 unfold Sj
 rw[Ts hx]
 apply ByteArray.ext
 simp
theorem Z4g {W:World} {b o n cap:Nat} {l:List OpD} (h:Z0 OpD.cells 26 W (.slice (some ⟨b,o,none⟩) n cap) l) {k:Nat} {x:OpD} (hx:l[k]?=some x) {j:Nat} {u:Value} (hu:x.cells[j]?=some u):W.cell? ⟨b,o+k*26+j,none⟩=some u:=by
 obtain ⟨_,_,e,_,_,h4⟩:=h
 cases e
 obtain ⟨b2,o2,e2,h5⟩:=h4 (by rintro rfl;simp at hx)
 cases e2
 exact h5 k x hx j u hu
theorem Z6E (v:Value) (l:List OpD) (w:World) (h:Z0 OpD.cells 26 w v l) (hwf:∀ x∈l,x.wf) (hn:l.length≤200) (hall:∀ x∈l,x.right=true) :
  Calls Tryz.prog 110 #[v] w fun e w'=>∃ v',e=.returned v'∧Own u8c 1 5 w.heap.size w' v' (Xm l)∧Below w.heap.size w w':=by
 obtain ⟨a,cap,rfl,hcap,hmax,-⟩:=id h
 unfold maxLen at hmax
 have HH:=Lib.hid h
 have HWF:=Lib.hid hwf
 have HALL:=Lib.hid hall
 clear h hwf hall
 have hlw:IntKind.u64.wrap (l.length:Int)=(l.length:Int):=by rw[Yc];omega
 go_enter Tryz.func110,Tryz.ntmps110
 go_wp2_with fail
 refine (V6 l.length _ (by omega)).mono ?_
 rintro e w4 ⟨v4,rfl,hown4,b4⟩
 obtain ⟨⟨pa,pn,pc⟩,e4⟩:=hown4.sl
 dsimp only at e4
 subst e4
 have HO:Hid (R4 w w4 (.slice pa pn pc) (Z5 l.length++ZN l 0)):=Jh (by rw[show ZN l 0=[] from rfl,List.append_nil];exact ⟨hown4,b4⟩)
 clear hown4 b4 hlw
 go_wp2_with fail
 go_loopg [4,3] 21 (fun g kv ov wx=>∃ (k:Nat) (s:Sl),g=21 - k∧kv=.int .i64 k∧ov=.slice s.a s.n s.cap∧k≤21∧Hid (R4 w wx (.slice s.a s.n s.cap) (Z5 l.length++ZN l k)))
 case atStart=>exact ⟨0,⟨pa,pn,pc⟩,rfl,rfl,rfl,by omega,HO⟩
 case round =>
  clear HO
  obtain ⟨k,⟨ta,tn,tc⟩,hg,rfl,rfl,hk,HR⟩:=hrel
  dsimp only at HR ⊢
  have HG:=Lib.hid hg
  clear hg
  obtain ⟨w9,rfl⟩:∃ w9,w9=wr:=⟨_,rfl⟩
  by_cases hlk:k<21
  ·have hk20:(k:Int)≤20:=by omega
   obtain ⟨i0,hi,hy0,hy1,hy2⟩:=info_parts Wa
   go_wp2_with fail
   go_loopg [6,5] l.length (fun g kv nv wx=>∃ (j:Nat) (s:Sl),g=l.length - j∧kv=.int .i64 j∧nv=.slice s.a s.n s.cap∧j≤l.length∧Hid (Own Zh 1 3 w9.heap.size wx (.slice s.a s.n s.cap) (Y8 (l.take j) k)∧Below w9.heap.size w9 wx))
   case atStart=>exact ⟨0,⟨none,0,0⟩,rfl,rfl,rfl,Nat.zero_le _,Lib.hid ⟨Own.nil,Below.refl _ _⟩⟩
   case round =>
    obtain ⟨j,⟨sa,sn,sc⟩,hg,rfl,rfl,hj,HI⟩:=hrel
    dsimp only at HI ⊢
    have HG2:=Lib.hid hg
    clear hg
    by_cases hlt:j<l.length
    ·have hk1:(j:Int)<(l.length:Int):=by omega
     have hj0:(0:Int)≤(j:Int):=by omega
     obtain ⟨x,hx⟩:∃ x,l[j]?=some x:=⟨_,List.getElem?_eq_getElem hlt⟩
     have hsl:=HH.out.below (HR.out.bel.trans (HI.out.2.mono HR.out.bel.size))
     obtain ⟨b0,o0,rfl⟩:=hsl.some8 (by rintro rfl;simp at hlt)
     have HLD:=Jh (Xc hsl hx)
     have HX:=Lib.hid hx
     clear hsl hx
     go_wp2_with ((with_reducible_and_instances refine Z9 (o:=⟨some 32,_,_,_,_,_⟩) (v:=.agg x.cells.toArray) ?_ ?_ ?_);rfl;exact Z8 rfl rfl HLD.out)
     refine (Z4G x k hlk _).mono ?_
     rintro e w3 ⟨rfl,b3⟩
     have HI2:=Jh (HI.out.1.below1 b3)
     have HB3:Hid (Below w9.heap.size w9 w3):=Jh (HI.out.2.trans (b3.mono HI.out.2.size))
     have HBD:Hid ((Y8 (l.take j) k).length+1≤maxLen∧((Y8 (l.take j) k).length+1)*8≤140737488355328):=Jh (by rw[Qt,List.length_take];unfold maxLen;omega)
     obtain ⟨F,hF⟩:=Je (fld x k)
     rw[hF]
     have HF:=Lib.hid hF
     clear b3 HLD HI hF
     go_wp2_with (at_builtin;refine ZD rfl _ _ _ rfl i0 _ 8 Tryz.underlying100 hi hy0 hy1 hy2 rfl (by omega) Zg XF rfl (HI2.out.alloc _) F w3.heap.size 1 rfl (Wm _ F) HBD.out.1 HBD.out.2 (by have:=HB3.out.size;simp;omega) ?_)
     intro v' w4 hown4 hx4 hn4
     rw[←HF.out,←Z5C HX.out] at hown4
     obtain ⟨⟨ua,un,uc⟩,e4⟩:=hown4.sl
     dsimp only at e4
     subst e4
     have HN:Hid (Own Zh 1 3 w9.heap.size w4 (.slice ua un uc) (Y8 (l.take (j+1)) k)∧Below w9.heap.size w9 w4):=Lib.hid ⟨hown4,Ext.new (HB3.out.alloc HB3.out.size _) hx4 (fun i hi _ e=>by have:=(HI2.out.blk i e).1;omega) (by have:=HB3.out.size;simp;omega)⟩
     clear hown4 hx4 hn4 HI2 HB3
     go_wp2_with fail
     go_roundg (l.length - (j+1))
     case measure=>rw[HG2.out];omega
     case rel=>exact ⟨j+1,⟨ua,un,uc⟩,rfl,by simp,rfl,by omega,HN⟩
    ·obtain rfl:j=l.length:=by omega
     have hk1:¬ (l.length:Int)<(l.length:Int):=by omega
     have HBL:Hid (Z0 Zh 1 wr (.slice sa sn sc) (Y8 l k)):=Jh (by have:=HI.out.1.slice Zg;rwa [List.take_length] at this)
     have HRR:Hid (R4 w wr (.slice ta tn tc) (Z5 l.length++ZN l k)):=Jh (HR.out.below HI.out.2 (Nat.le_refl _))
     have HCL:=Jh (QD HWF.out hn hlk)
     have HLEN:Hid ((Z5 l.length++ZN l k).length+(WF l k).length≤140737488355328):=Jh (by have h1:=XJ HWF.out hn k (by omega);have h3:=Xx (n:=l.length) (by omega);have h4:=HCL.out.1;rw[List.length_append];omega)
     clear HI HR hlt hj
     go_wp2_with fail
     refine (UQ k hlk _).mono ?_
     rintro e w5 ⟨rfl,rfl⟩
     cases hd:dlt k with
     | false =>
      have HCB:Hid (WF l k=Zc (Y8 l k)):=Jh (by unfold WF;rw[hd];rfl)
      clear hd
      go_wp2_with fail
      refine (TH _ (Y8 l k) _ HBL.out (by rw[Qt];omega) HCL.out.2).mono ?_
      rintro e w7 ⟨v7,rfl,hown7,b7⟩
      obtain ⟨⟨ua,un,uc⟩,w8,hr8,h8,-⟩:=R4.app (HRR.out.below b7 (Nat.le_refl _)) (hown7.slice Z7) (by have:=HLEN.out;rw[HCB.out] at this;exact this)
      rw[←HCB.out,List.append_assoc,←Wz] at h8
      have HN:=Lib.hid h8
      clear h8 hown7 b7 HBL HRR HLEN HCL
      go_wp2_with (at_builtin;refine Lib.wpList_append_run _ rfl _ _ _ _ rfl _ _ rfl rfl _ _ hr8 ?_)
      go_roundg (21 - (k+1))
      case measure=>rw[HG.out];omega
      case rel=>exact ⟨k+1,⟨ua,un,uc⟩,rfl,by simp,rfl,by omega,HN⟩
     | true =>
      have HCB:Hid (WF l k=Zc (ZG (Y8 l k))):=Jh (by unfold WF;rw[hd];rfl)
      clear hd
      go_wp2_with fail
      refine (Z3Y _ (Y8 l k) _ HBL.out (by rw[Qt];omega) HCL.out.2).mono ?_
      rintro e w7 ⟨v7,rfl,hown7,b7⟩
      obtain ⟨⟨ua,un,uc⟩,w8,hr8,h8,-⟩:=R4.app (HRR.out.below b7 (Nat.le_refl _)) (hown7.slice Z7) (by have:=HLEN.out;rw[HCB.out] at this;exact this)
      rw[←HCB.out,List.append_assoc,←Wz] at h8
      have HN:=Lib.hid h8
      clear h8 hown7 b7 HBL HRR HLEN HCL
      go_wp2_with (at_builtin;refine Lib.wpList_append_run _ rfl _ _ _ _ rfl _ _ rfl rfl _ _ hr8 ?_)
      go_roundg (21 - (k+1))
      case measure=>rw[HG.out];omega
      case rel=>exact ⟨k+1,⟨ua,un,uc⟩,rfl,by simp,rfl,by omega,HN⟩
  ·obtain rfl:k=21:=by omega
   have hk20:¬ (21:Int)≤20:=by omega
   have HO:Hid (R4 w w9 (.slice ta tn tc) (Z5 l.length++ZN l 21)):=Lib.hid HR.out
   clear HR hlk hk HG
   obtain ⟨i0,hi,hy0,hy1,hy2⟩:=info_parts UF
   go_wp2_with fail
   go_loopg [9,7,8] l.length (fun g kv fv tv wx=>∃ (j:Nat) (s r:Sl),g=l.length - j∧kv=.int .i64 j∧fv=.slice s.a s.n s.cap∧tv=.slice r.a r.n r.cap∧j≤l.length∧Hid (Own btc 1 4 w9.heap.size wx (.slice s.a s.n s.cap) (Zr (l.take j) 0)∧Own btc 1 4 w9.heap.size wx (.slice r.a r.n r.cap) (Zr (l.take j) 1)∧Below w9.heap.size w9 wx∧∀ b,(Value.slice s.a s.n s.cap).ownBlock=some b→(Value.slice r.a r.n r.cap).ownBlock=some b→False))
   case atStart=>exact ⟨0,⟨none,0,0⟩,⟨none,0,0⟩,rfl,rfl,rfl,rfl,Nat.zero_le _,Lib.hid ⟨Own.nil,Own.nil,Below.refl _ _,fun b h=>by cases h⟩⟩
   case round =>
    obtain ⟨j,⟨sa,sn,sc⟩,⟨ra,rn,rc⟩,hg,rfl,rfl,rfl,hj,HI⟩:=hrel
    dsimp only at HI ⊢
    have HG2:=Lib.hid hg
    clear hg
    by_cases hlt:j<l.length
    ·have hk1:(j:Int)<(l.length:Int):=by omega
     have hj0:(0:Int)≤(j:Int):=by omega
     obtain ⟨x,hx⟩:∃ x,l[j]?=some x:=⟨_,List.getElem?_eq_getElem hlt⟩
     have hsl:=HH.out.below (HO.out.bel.trans (HI.out.2.2.1.mono HO.out.bel.size))
     obtain ⟨b0,o0,rfl⟩:=hsl.some8 (by rintro rfl;simp at hlt)
     have cf:wr.cell? ⟨b0,o0+j*26+22,none⟩=some (.bool (tru x 0)):=Z4g hsl hx rfl
     have HX:=Lib.hid hx
     have HBD:Hid ((Zr (l.take j) 0).length+1≤maxLen∧((Zr (l.take j) 0).length+1)*1≤140737488355328):=Jh (by rw[Yz,List.length_take];unfold maxLen;omega)
     have HBE:Hid ((Zr (l.take j) 1).length+1≤maxLen∧((Zr (l.take j) 1).length+1)*1≤140737488355328):=Jh (by rw[Yz,List.length_take];unfold maxLen;omega)
     clear hsl hx
     go_wp2_with (at_builtin;refine ZD rfl _ _ _ rfl i0 _ 1 Tryz.underlying75 hi hy0 hy1 hy2 rfl (by omega) ZX VC rfl (HI.out.1.alloc _) (tru x 0) wr.heap.size 1 rfl (Um _ (tru x 0)) HBD.out.1 HBD.out.2 (by have:=HI.out.2.2.1.size;simp;omega) ?_)
     intro v' w4 hown4 hx4 hn4
     rw[←Ty HX.out] at hown4
     obtain ⟨⟨ua,un,uc⟩,e4⟩:=hown4.sl
     dsimp only at e4
     subst e4
     have HT4:=Jh ((HI.out.2.1.alloc (.cells #[.bool (tru x 0)] 4)).ext hx4 (fun b hb e=>HI.out.2.2.2 b e hb))
     have HB4:Hid (Below w9.heap.size w9 w4):=Jh (Ext.new (HI.out.2.2.1.alloc HI.out.2.2.1.size _) hx4 (fun i hi _ e=>by have:=(HI.out.1.blk i e).1;omega) (by have:=HI.out.2.2.1.size;simp;omega))
     have HO4:=Lib.hid hown4
     have HAP:Hid (∀ b,(Value.slice ua un uc).ownBlock=some b→(Value.slice ra rn rc).ownBlock=some b→False):=Jh (fun b h1 h2=>by
      rcases hn4 b h1 with h3|h3
      ·exact HI.out.2.2.2 b h3 h2
      ·have h4:=(HI.out.2.1.blk b h2).2
       try simp at h3
       omega)
     have hsl4:=HH.out.below (HO.out.bel.trans (HB4.out.mono HO.out.bel.size))
     have ct:w4.cell? ⟨b0,o0+j*26+25,none⟩=some (.bool (tru x 1)):=Z4g hsl4 HX.out rfl
     clear hown4 hx4 hn4 HI cf hsl4
     go_wp2_with (at_builtin;refine ZD rfl _ _ _ rfl i0 _ 1 Tryz.underlying75 hi hy0 hy1 hy2 rfl (by omega) ZX VC rfl (HT4.out.alloc _) (tru x 1) w4.heap.size 1 rfl (Um _ (tru x 1)) HBE.out.1 HBE.out.2 (by have:=HB4.out.size;simp;omega) ?_)
     intro v' w5 hown5 hx5 hn5
     rw[←Ty HX.out] at hown5
     obtain ⟨⟨qa,qn,qc⟩,e5⟩:=hown5.sl
     dsimp only at e5
     subst e5
     have HN:Hid (Own btc 1 4 w9.heap.size w5 (.slice ua un uc) (Zr (l.take (j+1)) 0)∧Own btc 1 4 w9.heap.size w5 (.slice qa qn qc) (Zr (l.take (j+1)) 1)∧Below w9.heap.size w9 w5∧∀ b,(Value.slice ua un uc).ownBlock=some b→(Value.slice qa qn qc).ownBlock=some b→False):=Lib.hid ⟨(HO4.out.alloc _).ext hx5 (fun b hb e=>HAP.out b hb e),hown5,Ext.new (HB4.out.alloc HB4.out.size _) hx5 (fun i hi _ e=>by have:=(HT4.out.blk i e).1;omega) (by have:=HB4.out.size;simp;omega),fun b h1 h2=>by
      rcases hn5 b h2 with h3|h3
      ·exact HAP.out b h1 h3
      ·have h4:=(HO4.out.blk b h1).2
       try simp at h3
       omega⟩
     clear hown5 hx5 hn5 HT4 HB4 HO4 HAP ct
     go_wp2_with fail
     go_roundg (l.length - (j+1))
     case measure=>rw[HG2.out];omega
     case rel=>exact ⟨j+1,⟨ua,un,uc⟩,⟨qa,qn,qc⟩,rfl,by simp,rfl,rfl,by omega,HN⟩
    ·obtain rfl:j=l.length:=by omega
     have hk1:¬ (l.length:Int)<(l.length:Int):=by omega
     have HF:Hid (Z0 btc 1 wr (.slice sa sn sc) (Zr l 0)∧Z0 btc 1 wr (.slice ra rn rc) (Zr l 1)∧Own btc 1 4 w9.heap.size wr (.slice ra rn rc) (Zr l 1)):=Jh (by have h1:=HI.out.1.slice ZX;have h2:=HI.out.2.1.slice ZX;have h3:=HI.out.2.1;rw[List.take_length] at h1 h2 h3;exact ⟨h1,h2,h3⟩)
     have HRR:Hid (R4 w wr (.slice ta tn tc) (Z5 l.length++ZN l 21)):=Jh (HO.out.below HI.out.2.2.1 (Nat.le_refl _))
     have HLEN:Hid ((Z5 l.length++ZN l 21).length+(Yu (Zr l 0)).length+(Yu (Zr l 1)).length≤140737488355328):=Jh (by have h1:=XJ HWF.out hn 21 (by omega);have h2:=WA (l:=Zr l 0) (by rw[Yz];omega);rw[Yz] at h2;have h4:=WA (l:=Zr l 1) (by rw[Yz];omega);rw[Yz] at h4;have h3:=Xx (n:=l.length) (by omega);rw[List.length_append];omega)
     have HAP:Hid (∀ b,(Value.slice ra rn rc).ownBlock=some b→(Value.slice ta tn tc).ownBlock=some b→False):=Jh (fun b h1 h2=>by have h3:=(HF.out.2.2.blk b h1).1;have h4:=(HO.out.own.blk b h2).2;omega)
     clear HI HO hlt hj
     go_wp2_with fail
     refine (UC _ (Zr l 0) _ HF.out.1 (by rw[Yz];omega)).mono ?_
     rintro e w7 ⟨v7,rfl,hown7,b7⟩
     obtain ⟨⟨ua,un,uc⟩,w8,hr8,h8,hx8⟩:=R4.app (HRR.out.below b7 (Nat.le_refl _)) (hown7.slice Z7) (by have:=HLEN.out;omega)
     have H8:=Lib.hid h8
     have HT8:=Jh (((HF.out.2.2.below1 b7).ext hx8 (fun b hb e=>HAP.out b hb e)).slice ZX)
     clear h8 hx8 hown7 b7 HF HRR HAP
     go_wp2_with (at_builtin;refine Lib.wpList_append_run _ rfl _ _ _ _ rfl _ _ rfl rfl _ _ hr8 ?_)
     clear hr8
     refine (UC _ (Zr l 1) _ HT8.out (by rw[Yz];omega)).mono ?_
     rintro e w10 ⟨v10,rfl,hown10,b10⟩
     obtain ⟨⟨za,zn,zc⟩,w11,hr11,h11,-⟩:=R4.app (H8.out.below b10 (Nat.le_refl _)) (hown10.slice Z7) (by have:=HLEN.out;rw[List.length_append];omega)
     have HT0:Hid (R4 w w11 (.slice za zn zc) (Z5 l.length++ZN l 21++Yw l 2++X9 l 0)):=Jh (by
      have e:Yw l 2=Yu (Zr l 0)++Yu (Zr l 1):=by rw[WB,WB];rfl
      rw[e,show X9 l 0=[] from rfl,List.append_nil,←List.append_assoc]
      exact h11)
     clear h11 hown10 b10 H8 HT8 HLEN hi hy0 hy1 hy2
     go_wp2_with (at_builtin;refine Lib.wpList_append_run _ rfl _ _ _ _ rfl _ _ rfl rfl _ _ hr11 ?_)
     clear hr11
     go_loopg [10,3] 3 (fun g kv ov wx=>∃ (k:Nat) (s:Sl),g=3 - k∧kv=.int .i64 k∧ov=.slice s.a s.n s.cap∧k≤3∧Hid (R4 w wx (.slice s.a s.n s.cap) (Z5 l.length++ZN l 21++Yw l 2++X9 l k)))
     case atStart=>exact ⟨0,⟨za,zn,zc⟩,rfl,rfl,rfl,by omega,HT0⟩
     case round =>
      clear HT0 HG2
      obtain ⟨k,⟨ta,tn,tc⟩,hg,rfl,rfl,hk,HR⟩:=hrel
      dsimp only at HR ⊢
      have HG:=Lib.hid hg
      clear hg
      obtain ⟨w9,rfl⟩:∃ w9,w9=wr:=⟨_,rfl⟩
      by_cases hlk:k<3
      ·have hk3:(k:Int)<3:=by omega
       obtain ⟨i0,hi,hy0,hy1,hy2⟩:=info_parts Wa
       go_wp2_with fail
       go_loopg [13,11,12] l.length (fun g kv nv sv wx=>∃ (j:Nat) (s:Sl),g=l.length - j∧kv=.int .i64 j∧nv=.slice s.a s.n s.cap∧sv=.string (Sj (l.take j) k)∧j≤l.length∧Hid (Own Zh 1 3 w9.heap.size wx (.slice s.a s.n s.cap) (Zw (l.take j) k)∧Below w9.heap.size w9 wx))
       case atStart=>exact ⟨0,⟨none,0,0⟩,rfl,rfl,rfl,rfl,Nat.zero_le _,Lib.hid ⟨Own.nil,Below.refl _ _⟩⟩
       case round =>
        obtain ⟨j,⟨sa,sn,sc⟩,hg,rfl,rfl,rfl,hj,HI⟩:=hrel
        dsimp only at HI ⊢
        have HG2:=Lib.hid hg
        clear hg
        by_cases hlt:j<l.length
        ·have hk1:(j:Int)<(l.length:Int):=by omega
         have hj0:(0:Int)≤(j:Int):=by omega
         obtain ⟨x,hx⟩:∃ x,l[j]?=some x:=⟨_,List.getElem?_eq_getElem hlt⟩
         have hsl:=HH.out.below (HR.out.bel.trans (HI.out.2.mono HR.out.bel.size))
         obtain ⟨b0,o0,rfl⟩:=hsl.some8 (by rintro rfl;simp at hlt)
         have HLD:=Jh (Xc hsl hx)
         have HX:=Lib.hid hx
         have HTX:=Jh (OpD.right_txt (HALL.out x (List.mem_of_getElem? hx)) k)
         have HCT:Hid ((Sj (l.take j) k).size≤12800):=Jh (by rw[Z1S];have:=WE (l:=l.take j) (fun y hy=>HALL.out y (List.mem_of_mem_take hy)) k;rw[List.length_take] at this;omega)
         have HBD:Hid ((Zw (l.take j) k).length+1≤maxLen∧((Zw (l.take j) k).length+1)*8≤140737488355328):=Jh (by rw[Wb,List.length_take];unfold maxLen;omega)
         obtain ⟨T,hT⟩:=Je (txt x k)
         obtain ⟨C,hC⟩:=Je (Sj (l.take j) k)
         have HT:=Lib.hid hT
         have HC:=Lib.hid hC
         have hsum:∀ W,(Op.stringOp .add C T).run Tryz.prog W=.ok (.string (C++T)) W:=fun W=>run_string_add_sum W _ _ (by rw[←hC,←hT];have:=HTX.out;have:=HCT.out;omega)
         rw[hC]
         clear hsl hx hC
         go_wp2_with ((with_reducible_and_instances refine Z9 (o:=⟨some 93,_,_,_,_,_⟩) (v:=.agg x.cells.toArray) ?_ ?_ ?_);rfl;exact Z8 rfl rfl HLD.out)
         refine (Z1v x k hlk _).mono ?_
         rintro e w3 ⟨rfl,b3⟩
         rw[hT]
         have htl:T.size≤64:=by rw[←hT];exact HTX.out
         clear hT
         have HI2:=Jh (HI.out.1.below1 b3)
         have HB3:Hid (Below w9.heap.size w9 w3):=Jh (HI.out.2.trans (b3.mono HI.out.2.size))
         clear b3 HLD HI
         go_wp2_with (at_builtin;refine ZD rfl _ _ _ rfl i0 _ 8 Tryz.underlying100 hi hy0 hy1 hy2 rfl (by omega) Zg XF rfl (HI2.out.alloc _) (T.size:Int) w3.heap.size 1 rfl (Wm _ (T.size:Int)) HBD.out.1 HBD.out.2 (by have:=HB3.out.size;simp;omega) ?_)
         intro v' w4 hown4 hx4 hn4
         rw[←HT.out,←Tl HX.out] at hown4
         obtain ⟨⟨ua,un,uc⟩,e4⟩:=hown4.sl
         dsimp only at e4
         subst e4
         have HN4:Hid (Own Zh 1 3 w9.heap.size w4 (.slice ua un uc) (Zw (l.take (j+1)) k)∧Below w9.heap.size w9 w4):=Lib.hid ⟨hown4,Ext.new (HB3.out.alloc HB3.out.size _) hx4 (fun i hi _ e=>by have:=(HI2.out.blk i e).1;omega) (by have:=HB3.out.size;simp;omega)⟩
         have hsl4:=HH.out.below (HR.out.bel.trans (HN4.out.2.mono HR.out.bel.size))
         have HLD4:=Jh (Xc hsl4 HX.out)
         clear hown4 hx4 hn4 HI2 HB3 hsl4
         go_wp2_with ((with_reducible_and_instances refine Z9 (o:=⟨some 103,_,_,_,_,_⟩) (v:=.agg x.cells.toArray) ?_ ?_ ?_);rfl;exact Z8 rfl rfl HLD4.out)
         refine (Z1v x k hlk _).mono ?_
         rintro e w5 ⟨rfl,b5⟩
         rw[HT.out]
         have HN:Hid (Own Zh 1 3 w9.heap.size w5 (.slice ua un uc) (Zw (l.take (j+1)) k)∧Below w9.heap.size w9 w5):=Lib.hid ⟨HN4.out.1.below1 b5,HN4.out.2.trans (b5.mono HN4.out.2.size)⟩
         have HCC:Hid (C++T=Sj (l.take (j+1)) k):=Jh (by rw[←HC.out,←HT.out];exact Z5K HX.out k)
         clear b5 HN4 HLD4
         go_wp2_with fail
         go_roundg (l.length - (j+1))
         case measure=>rw[HG2.out];omega
         case rel=>exact ⟨j+1,⟨ua,un,uc⟩,rfl,by simp,rfl,by rw[HCC.out],by omega,HN⟩
        ·obtain rfl:j=l.length:=by omega
         have hk1:¬ (l.length:Int)<(l.length:Int):=by omega
         have HBL:Hid (Z0 Zh 1 wr (.slice sa sn sc) (Zw l k)):=Jh (by have h1:=HI.out.1.slice Zg;rw[List.take_length] at h1;exact h1)
         have HRR:Hid (R4 w wr (.slice ta tn tc) (Z5 l.length++ZN l 21++Yw l 2++X9 l k)):=Jh (HR.out.below HI.out.2 (Nat.le_refl _))
         have HLEN:Hid ((Z5 l.length++ZN l 21++Yw l 2++X9 l k).length+(Zc (Zw l k)).length+(ZC l k).length≤140737488355328):=Jh (by have h1:=XJ HWF.out hn 21 (by omega);have h2:=Vb (l:=l) hn 2;have h3:=Xx (n:=l.length) (by omega);have h4:=Uh HALL.out hn k;have h5:=UN HALL.out hn k;have h6:=WE HALL.out k;rw[List.length_append,List.length_append,List.length_append];omega)
         obtain ⟨C,hC⟩:=Je (Sj l k)
         have HC:=Lib.hid hC
         rw[List.take_length,hC]
         clear HI HR hlt hj hC
         go_wp2_with fail
         refine (TH _ (Zw l k) _ HBL.out (by rw[Wb];omega) (UD HALL.out k)).mono ?_
         rintro e w7 ⟨v7,rfl,hown7,b7⟩
         obtain ⟨⟨ua,un,uc⟩,w8,hr8,h8,-⟩:=R4.app (HRR.out.below b7 (Nat.le_refl _)) (hown7.slice Z7) (by have:=HLEN.out;omega)
         have hCs:C.size=(ZC l k).length:=by rw[←HC.out,Z1S]
         obtain ⟨⟨xa,xn,xc⟩,w10,hr10,h10,hx10⟩:=Ux h8.own C h8.bel.size (by have:=HLEN.out;rw[List.length_append,hCs];omega)
         have hCd:C.data.toList=ZC l k:=by rw[←HC.out];rfl
         rw[hCd,List.append_assoc,List.append_assoc,←XW] at h10
         have HN:Hid (R4 w w10 (.slice xa xn xc) (Z5 l.length++ZN l 21++Yw l 2++X9 l (k+1))):=Lib.hid ⟨h10,Ext.new h8.bel hx10 (fun i hi _ e=>by have:=(h8.own.blk i e).1;omega) h8.bel.size⟩
         clear h8 h10 hx10 hown7 b7 HBL HRR HLEN hCs hCd
         go_wp2_with (at_builtin;first|(refine Lib.wpList_append_run _ rfl _ _ _ _ rfl _ _ rfl rfl _ _ hr8 ?_)|(refine Lib.wpList_append_run _ rfl _ _ _ _ rfl _ _ rfl rfl _ _ hr10 ?_))
         go_roundg (3 - (k+1))
         case measure=>rw[HG.out];omega
         case rel=>exact ⟨k+1,⟨xa,xn,xc⟩,rfl,by simp,rfl,by omega,HN⟩
      ·obtain rfl:k=3:=by omega
       have hk3:¬ (3:Int)<3:=by omega
       go_wp2_with fail
       go_ret
       exact ⟨_,rfl,HR.out.own,HR.out.bel⟩
theorem RM {s:ByteArray} {k:Nat} (h:k<s.size):s.data.toList[k]?=some s[k]:=by
 have h2:k<s.data.size:=h
 rw[Array.getElem?_toList,Array.getElem?_eq_getElem h2]
 rfl
theorem Vs {l:List UInt8} {p:UInt8→Prop} {k:Nat} {x:UInt8} (h:∀ y∈l.take k,p y) (hx:l[k]?=some x) (hp:p x):∀ y∈l.take (k+1),p y:=by
 intro y hy
 rw[List.take_add_one,hx,Option.toList_some] at hy
 rcases List.mem_append.1 hy with hy|hy
 ·exact h y hy
 ·rw[List.mem_singleton.1 hy];exact hp
theorem TL {l:List UInt8} {p:UInt8→Prop} [DecidablePred p] (h:∀ y∈l.take l.length,p y):(l.all fun c=>decide (p c))=true:=by
 rw[List.take_length] at h
 exact List.all_eq_true.2 fun y hy=>decide_eq_true (h y hy)
theorem U1 {l:List UInt8} {p:UInt8→Prop} [DecidablePred p] {k:Nat} {x:UInt8} (hx:l[k]?=some x) (hp:¬ p x):(l.all fun c=>decide (p c))=false:=by
 rw[Bool.eq_false_iff]
 intro h
 exact hp (of_decide_eq_true (List.all_eq_true.1 h x (List.mem_of_getElem? hx)))
theorem Z2a (s:ByteArray) (hs:s.size≤9223372036854775807) (w:World):Calls Tryz.prog 136 #[.string s] w fun e w'=>e=.returned (.bool (YG s))∧w'=w:=by
 go_enter Tryz.func136,Tryz.ntmps136
 go_wp2_with fail
 go_loopg [3] s.size (fun g kv wx=>∃ k:Nat,g=s.size - k∧kv=.int .i64 k∧k≤s.size∧wx=w∧Hid (∀ c∈s.data.toList.take k,97≤c.toNat∧c.toNat≤122))
 case atStart=>exact ⟨0,rfl,rfl,Nat.zero_le _,rfl,Jh (fun x hx=>by simp at hx)⟩
 case round =>
  obtain ⟨k,hg,rfl,hk,rfl,HR⟩:=hrel
  have HG:=Lib.hid hg
  clear hg
  by_cases hlt:k<s.size
  ·have hk1:(k:Int)<(s.size:Int):=by omega
   have hk0:(0:Int)≤(k:Int):=by omega
   obtain ⟨c,hc⟩:=Je (s[k])
   have hx:=RM hlt
   rw[hc] at hx
   have HX:=Lib.hid hx
   clear hx
   by_cases ha:c.toNat<97
   ·have ha1:(c.toNat:Int)<97:=by omega
    have HBAD:Hid (YG s=false):=Jh (by unfold YG;rw[U1 (p:=fun c=>97≤c.toNat∧c.toNat≤122) HX.out (by omega)];simp)
    go_wp2_with fail
    go_ret
    exact ⟨by rw[HBAD.out];rfl,rfl⟩
   ·have ha1:¬ (c.toNat:Int)<97:=by omega
    by_cases hb:122<c.toNat
    ·have hb1:(122:Int)<(c.toNat:Int):=by omega
     have HBAD:Hid (YG s=false):=Jh (by unfold YG;rw[U1 (p:=fun c=>97≤c.toNat∧c.toNat≤122) HX.out (by omega)];simp)
     go_wp2_with fail
     go_ret
     exact ⟨by rw[HBAD.out];rfl,rfl⟩
    ·have hb1:¬ (122:Int)<(c.toNat:Int):=by omega
     have HN:Hid (∀ c∈s.data.toList.take (k+1),97≤c.toNat∧c.toNat≤122):=Jh (Vs HR.out HX.out (by omega))
     go_wp2_with fail
     go_roundg (s.size - (k+1))
     case measure=>rw[HG.out];omega
     case rel=>exact ⟨k+1,rfl,by simp,by omega,rfl,HN⟩
  ·obtain rfl:k=s.size:=by omega
   have hk1:¬ (s.size:Int)<(s.size:Int):=by omega
   have hall:=TL (p:=fun c=>97≤c.toNat∧c.toNat≤122) (by have h:=HR.out;rwa [←WW] at h)
   by_cases h1:1≤s.size
   ·have h11:(1:Int)≤(s.size:Int):=by omega
    by_cases h2:s.size≤8
    ·have h21:(s.size:Int)≤8:=by omega
     have HE:Hid (YG s=true):=Jh (by unfold YG;rw[hall,decide_eq_true (by omega)];rfl)
     clear hall
     go_wp2_with fail
     go_ret
     exact ⟨by rw[HE.out];rfl,rfl⟩
    ·have h21:¬ (s.size:Int)≤8:=by omega
     have HE:Hid (YG s=false):=Jh (by unfold YG;rw[decide_eq_false (by omega)];rfl)
     clear hall
     go_wp2_with fail
     go_ret
     exact ⟨by rw[HE.out];rfl,rfl⟩
   ·have h11:¬ (1:Int)≤(s.size:Int):=by omega
    have HE:Hid (YG s=false):=Jh (by unfold YG;rw[decide_eq_false (by omega)];rfl)
    clear hall
    go_wp2_with fail
    go_ret
    exact ⟨by rw[HE.out];rfl,rfl⟩
theorem Z0f (s:ByteArray) (hs:s.size≤9223372036854775807) (w:World):Calls Tryz.prog 137 #[.string s] w fun e w'=>e=.returned (.bool (YB s))∧w'=w:=by
 go_enter Tryz.func137,Tryz.ntmps137
 go_wp2_with fail
 go_loopg [3] s.size (fun g kv wx=>∃ k:Nat,g=s.size - k∧kv=.int .i64 k∧k≤s.size∧wx=w∧Hid (∀ c∈s.data.toList.take k,32≤c.toNat∧c.toNat≤126))
 case atStart=>exact ⟨0,rfl,rfl,Nat.zero_le _,rfl,Jh (fun x hx=>by simp at hx)⟩
 case round =>
  obtain ⟨k,hg,rfl,hk,rfl,HR⟩:=hrel
  have HG:=Lib.hid hg
  clear hg
  by_cases hlt:k<s.size
  ·have hk1:(k:Int)<(s.size:Int):=by omega
   have hk0:(0:Int)≤(k:Int):=by omega
   obtain ⟨c,hc⟩:=Je (s[k])
   have hx:=RM hlt
   rw[hc] at hx
   have HX:=Lib.hid hx
   clear hx
   by_cases ha:c.toNat<32
   ·have ha1:(c.toNat:Int)<32:=by omega
    have HBAD:Hid (YB s=false):=Jh (by unfold YB;rw[U1 (p:=fun c=>32≤c.toNat∧c.toNat≤126) HX.out (by omega)];simp)
    go_wp2_with fail
    go_ret
    exact ⟨by rw[HBAD.out];rfl,rfl⟩
   ·have ha1:¬ (c.toNat:Int)<32:=by omega
    by_cases hb:126<c.toNat
    ·have hb1:(126:Int)<(c.toNat:Int):=by omega
     have HBAD:Hid (YB s=false):=Jh (by unfold YB;rw[U1 (p:=fun c=>32≤c.toNat∧c.toNat≤126) HX.out (by omega)];simp)
     go_wp2_with fail
     go_ret
     exact ⟨by rw[HBAD.out];rfl,rfl⟩
    ·have hb1:¬ (126:Int)<(c.toNat:Int):=by omega
     have HN:Hid (∀ c∈s.data.toList.take (k+1),32≤c.toNat∧c.toNat≤126):=Jh (Vs HR.out HX.out (by omega))
     go_wp2_with fail
     go_roundg (s.size - (k+1))
     case measure=>rw[HG.out];omega
     case rel=>exact ⟨k+1,rfl,by simp,by omega,rfl,HN⟩
  ·obtain rfl:k=s.size:=by omega
   have hk1:¬ (s.size:Int)<(s.size:Int):=by omega
   have hall:=TL (p:=fun c=>32≤c.toNat∧c.toNat≤126) (by have h:=HR.out;rwa [←WW] at h)
   by_cases h2:s.size≤16
   ·have h21:(s.size:Int)≤16:=by omega
    have HE:Hid (YB s=true):=Jh (by unfold YB;rw[hall,decide_eq_true (by omega)];rfl)
    clear hall
    go_wp2_with fail
    go_ret
    exact ⟨by rw[HE.out];rfl,rfl⟩
   ·have h21:¬ (s.size:Int)≤16:=by omega
    have HE:Hid (YB s=false):=Jh (by unfold YB;rw[decide_eq_false (by omega)];rfl)
    clear hall
    go_wp2_with fail
    go_ret
    exact ⟨by rw[HE.out];rfl,rfl⟩
theorem Z6Y (s:ByteArray) (hs:s.size≤9223372036854775807) (w:World):Calls Tryz.prog 135 #[.string s] w fun e w'=>e=.returned (.bool (YS s))∧w'=w:=by
 go_enter Tryz.func135,Tryz.ntmps135
 go_wp2_with fail
 go_loopg [3] s.size (fun g kv wx=>∃ k:Nat,g=s.size - k∧kv=.int .i64 k∧k≤s.size∧wx=w∧Hid (∀ c∈s.data.toList.take k,48≤c.toNat∧c.toNat≤57∨97≤c.toNat∧c.toNat≤122))
 case atStart=>exact ⟨0,rfl,rfl,Nat.zero_le _,rfl,Jh (fun x hx=>by simp at hx)⟩
 case round =>
  obtain ⟨k,hg,rfl,hk,rfl,HR⟩:=hrel
  have HG:=Lib.hid hg
  clear hg
  by_cases hlt:k<s.size
  ·have hk1:(k:Int)<(s.size:Int):=by omega
   have hk0:(0:Int)≤(k:Int):=by omega
   obtain ⟨c,hc⟩:=Je (s[k])
   have hx:=RM hlt
   rw[hc] at hx
   have HX:=Lib.hid hx
   clear hx
   by_cases ha:48≤c.toNat
   ·have ha1:(48:Int)≤(c.toNat:Int):=by omega
    by_cases hb:c.toNat≤57
    ·have hb1:(c.toNat:Int)≤57:=by omega
     have HN:Hid (∀ c∈s.data.toList.take (k+1),48≤c.toNat∧c.toNat≤57∨97≤c.toNat∧c.toNat≤122):=Jh (Vs HR.out HX.out (by omega))
     go_wp2_with fail
     go_roundg (s.size - (k+1))
     case measure=>rw[HG.out];omega
     case rel=>exact ⟨k+1,rfl,by simp,by omega,rfl,HN⟩
    ·have hb1:¬ (c.toNat:Int)≤57:=by omega
     by_cases hd:97≤c.toNat
     ·have hd1:(97:Int)≤(c.toNat:Int):=by omega
      by_cases he:c.toNat≤122
      ·have he1:(c.toNat:Int)≤122:=by omega
       have HN:Hid (∀ c∈s.data.toList.take (k+1),48≤c.toNat∧c.toNat≤57∨97≤c.toNat∧c.toNat≤122):=Jh (Vs HR.out HX.out (by omega))
       go_wp2_with fail
       go_roundg (s.size - (k+1))
       case measure=>rw[HG.out];omega
       case rel=>exact ⟨k+1,rfl,by simp,by omega,rfl,HN⟩
      ·have he1:¬ (c.toNat:Int)≤122:=by omega
       have HBAD:Hid (YS s=false):=Jh (by unfold YS;rw[U1 (p:=fun c=>48≤c.toNat∧c.toNat≤57∨97≤c.toNat∧c.toNat≤122) HX.out (by omega)];simp)
       go_wp2_with fail
       go_ret
       exact ⟨by rw[HBAD.out];rfl,rfl⟩
     ·have hd1:¬ (97:Int)≤(c.toNat:Int):=by omega
      have HBAD:Hid (YS s=false):=Jh (by unfold YS;rw[U1 (p:=fun c=>48≤c.toNat∧c.toNat≤57∨97≤c.toNat∧c.toNat≤122) HX.out (by omega)];simp)
      go_wp2_with fail
      go_ret
      exact ⟨by rw[HBAD.out];rfl,rfl⟩
   ·have ha1:¬ (48:Int)≤(c.toNat:Int):=by omega
    have HBAD:Hid (YS s=false):=Jh (by unfold YS;rw[U1 (p:=fun c=>48≤c.toNat∧c.toNat≤57∨97≤c.toNat∧c.toNat≤122) HX.out (by omega)];simp)
    go_wp2_with fail
    go_ret
    exact ⟨by rw[HBAD.out];rfl,rfl⟩
  ·obtain rfl:k=s.size:=by omega
   have hk1:¬ (s.size:Int)<(s.size:Int):=by omega
   have hall:=TL (p:=fun c=>48≤c.toNat∧c.toNat≤57∨97≤c.toNat∧c.toNat≤122) (by have h:=HR.out;rwa [←WW] at h)
   by_cases h1:1≤s.size
   ·have h11:(1:Int)≤(s.size:Int):=by omega
    by_cases h2:s.size≤64
    ·have h21:(s.size:Int)≤64:=by omega
     have hlast:s.data.toList.getLast?=some (s[s.size - 1]):=by rw[List.getLast?_eq_getElem?,WW];exact RM (by omega)
     obtain ⟨c,hc⟩:=Je (s[s.size - 1])
     rw[hc] at hlast
     have hidx:((s.size:Int) - 1)=((s.size - 1:Nat):Int):=by omega
     by_cases h3:c.toNat=48
     ·have h31:(c.toNat:Int)=48:=by omega
      have hc48:c=48:=UInt8.toNat_inj.1 h3
      have HE:Hid (YS s=false):=Jh (by unfold YS;rw[hlast,hc48];simp)
      clear hall hlast hc48 h3
      go_wp2_with fail
      go_ret
      exact ⟨by rw[HE.out];rfl,rfl⟩
     ·have h31:¬ (c.toNat:Int)=48:=by omega
      have hc48:c≠48:=fun e=>h3 (by rw[e];rfl)
      have HE:Hid (YS s=true):=Jh (by unfold YS;rw[hall,hlast,decide_eq_true (by omega),decide_eq_true (by simpa using hc48)];rfl)
      clear hall hlast hc48 h3
      go_wp2_with fail
      go_ret
      exact ⟨by rw[HE.out];first|rfl|(simp;done)|(simp;omega),rfl⟩
    ·have h21:¬ (s.size:Int)≤64:=by omega
     have HE:Hid (YS s=false):=Jh (by unfold YS;rw[decide_eq_false (by omega)];rfl)
     clear hall
     go_wp2_with fail
     go_ret
     exact ⟨by rw[HE.out];rfl,rfl⟩
   ·have h11:¬ (1:Int)≤(s.size:Int):=by omega
    have HE:Hid (YS s=false):=Jh (by unfold YS;rw[decide_eq_false (by omega)];rfl)
    clear hall
    go_wp2_with fail
    go_ret
    exact ⟨by rw[HE.out];rfl,rfl⟩
end Go.Proofs.YtgmdimbiipemhaaGreatDoor
namespace Go.Proofs.YtgmdimbiipemhaaGreatDoor
open Go.RowKit
theorem Sq (a b:Int) (w:World) :
  Calls Tryz.prog 132 #[.agg #[.int .i64 a,.int .i64 b]] w
   fun e w'=>e=.returned (.bool (ZP ⟨a,b⟩))∧Below w.heap.size w w':=by
 by_cases h1:1≤a
 ·by_cases h2:a≤1048576
  ·by_cases h3:0≤b
   ·by_cases h4:b<8
    ·have hr:ZP ⟨a,b⟩=true:=by simp only[ZP,decide_eq_true_eq];exact ⟨h1,h2,h3,h4⟩
     rw[hr];clear hr
     go_enter Tryz.func132,Tryz.ntmps132
     go_wp2
     go_ret
     exact ⟨rfl,(Below.refl _ _).alloc (Nat.le_refl _) _⟩
    ·have hr:ZP ⟨a,b⟩=false:=by simp only[ZP,decide_eq_false_iff_not];omega
     rw[hr];clear hr
     go_enter Tryz.func132,Tryz.ntmps132
     go_wp2
     go_ret
     exact ⟨rfl,(Below.refl _ _).alloc (Nat.le_refl _) _⟩
   ·have hr:ZP ⟨a,b⟩=false:=by simp only[ZP,decide_eq_false_iff_not];omega
    rw[hr];clear hr
    go_enter Tryz.func132,Tryz.ntmps132
    go_wp2
    go_ret
    exact ⟨rfl,(Below.refl _ _).alloc (Nat.le_refl _) _⟩
  ·have hr:ZP ⟨a,b⟩=false:=by simp only[ZP,decide_eq_false_iff_not];omega
   rw[hr];clear hr
   go_enter Tryz.func132,Tryz.ntmps132
   go_wp2
   go_ret
   exact ⟨rfl,(Below.refl _ _).alloc (Nat.le_refl _) _⟩
 ·have hr:ZP ⟨a,b⟩=false:=by simp only[ZP,decide_eq_false_iff_not];omega
  rw[hr];clear hr
  go_enter Tryz.func132,Tryz.ntmps132
  go_wp2
  go_ret
  exact ⟨rfl,(Below.refl _ _).alloc (Nat.le_refl _) _⟩
end Go.Proofs.YtgmdimbiipemhaaGreatDoor
namespace Go.Proofs.YtgmdimbiipemhaaGreatDoor
open Go.RowKit Go.Deep
theorem Z1l (s:St) (w:World):Calls Tryz.prog 133 #[.agg #[.int .i64 s.n,.int .i64 s.r]] w fun e w'=>e=.returned (.bool (decide (s=⟨0,0⟩)))∧Below w.heap.size w w':=by
 obtain ⟨a,b⟩:=s
 by_cases h1:a=0
 ·subst h1
  by_cases h2:b=0
  ·subst h2
   go_enter Tryz.func133,Tryz.ntmps133
   go_wp2
   go_ret
   exact ⟨by simp,(Below.refl _ _).alloc (Nat.le_refl _) _⟩
  ·have hd:decide ((⟨0,b⟩:St)=⟨0,0⟩)=false:=decide_eq_false (by intro e;cases e;exact h2 rfl)
   rw[hd]
   go_enter Tryz.func133,Tryz.ntmps133
   go_wp2
   go_ret
   exact ⟨by first|rfl|simp[h2],(Below.refl _ _).alloc (Nat.le_refl _) _⟩
 ·have hd:decide ((⟨a,b⟩:St)=⟨0,0⟩)=false:=decide_eq_false (by intro e;cases e;exact h1 rfl)
  rw[hd]
  go_enter Tryz.func133,Tryz.ntmps133
  go_wp2
  go_ret
  exact ⟨by first|rfl|simp[h1],(Below.refl _ _).alloc (Nat.le_refl _) _⟩
def Z8a (d0 d1 d2 d3 d4 d5 d6 d7:Int):Array Value:=#[.int .i64 d0,.int .i64 d1,.int .i64 d2,.int .i64 d3,.int .i64 d4,.int .i64 d5,.int .i64 d6,.int .i64 d7]
theorem Z7n {W:World} {B:Nat} {T:TypeId} {d0 d1 d2 d3 d4 d5 d6 d7:Int} (h:W.heap[B]?=some (.cells (Z8a d0 d1 d2 d3 d4 d5 d6 d7) T (0,0))) {k:Nat} (hk:k<8):W.cell? ⟨B,k,none⟩=some (.int .i64 ([d0,d1,d2,d3,d4,d5,d6,d7].getD k 0)):=by
 unfold World.cell?
 simp only[h]
 match k,hk with
 | 0,_=>rfl
 | 1,_=>rfl
 | 2,_=>rfl
 | 3,_=>rfl
 | 4,_=>rfl
 | 5,_=>rfl
 | 6,_=>rfl
 | 7,_=>rfl
 | n+8,h=>exact absurd h (by omega)
theorem Z2I (d0 d1 d2 d3 d4 d5 d6 d7:Int) (s:St) (w:World):Calls Tryz.prog 173 #[.agg #[.int .i64 d0,.int .i64 d1,.int .i64 d2,.int .i64 d3,.int .i64 d4,.int .i64 d5,.int .i64 d6,.int .i64 d7],.agg #[.int .i64 s.n,.int .i64 s.r]] w fun e w'=>e=.returned (.bool (WZ [d0,d1,d2,d3,d4,d5,d6,d7] s))∧Below w.heap.size w w':=by
 obtain ⟨sn,sr⟩:=s
 obtain ⟨W1,hW1⟩:=Je ((w.alloc (.cells #[.int .i64 d0,.int .i64 d1,.int .i64 d2,.int .i64 d3,.int .i64 d4,.int .i64 d5,.int .i64 d6,.int .i64 d7] 32)).alloc (.cells #[.int .i64 sn,.int .i64 sr] 62))
 have hb1:Below w.heap.size w W1:=by rw[←hW1];exact ((Below.refl _ _).alloc (Nat.le_refl _) _).alloc (by simp) _
 have hv:W1.heap[w.heap.size]?=some (.cells (Z8a d0 d1 d2 d3 d4 d5 d6 d7) 32 (0,0)):=by rw[←hW1];exact (Below.heap_alloc _ _ _ (by simp)).trans (ZB w _)
 have hs:W1.heap[w.heap.size+1]?=some (.cells #[.int .i64 sn,.int .i64 sr] 62 (0,0)):=by
  rw[←hW1]
  have:=ZB (w.alloc (.cells #[.int .i64 d0,.int .i64 d1,.int .i64 d2,.int .i64 d3,.int .i64 d4,.int .i64 d5,.int .i64 d6,.int .i64 d7] 32)) (.cells #[.int .i64 sn,.int .i64 sr] 62)
  rwa [World.size_alloc] at this
 have c0:W1.cell? ⟨w.heap.size+1,0,none⟩=some (.int .i64 sn):=by simp[World.cell?,hs]
 have c1:W1.cell? ⟨w.heap.size+1,1,none⟩=some (.int .i64 sr):=by simp[World.cell?,hs]
 have HV:=Jh (And.intro hv hb1)
 clear hv hb1 hs
 by_cases hin:0≤sr∧sr<8
 ·obtain ⟨m,rfl⟩:∃ m:Nat,sr=(m:Int):=⟨sr.toNat,by omega⟩
  have hm:m<8:=by omega
  have cv:=Z7n HV.out.1 hm
  have hhas:WZ [d0,d1,d2,d3,d4,d5,d6,d7] ⟨sn,(m:Int)⟩=decide (sn≤[d0,d1,d2,d3,d4,d5,d6,d7].getD m 0):=by
   unfold WZ
   rw[decide_eq_true hin]
   rfl
  obtain ⟨q,hq⟩:=Je ([d0,d1,d2,d3,d4,d5,d6,d7].getD m 0)
  rw[hq] at cv hhas
  have HH:=Lib.hid hhas
  clear hq hhas hin
  go_enter Tryz.func173,Tryz.ntmps173
  go_wp2_with fail
  go_loopg [5] 8 (fun g kv wx=>∃ k:Nat,g=8 - k∧kv=.int .i64 k∧k≤m∧wx=W1)
  case atStart=>exact ⟨0,rfl,rfl,by omega,rfl⟩
  case round =>
   obtain ⟨k,hg,rfl,hk,rfl⟩:=hrel
   have HG:=Lib.hid hg
   clear hg
   have hk8:(k:Int)<8:=by omega
   by_cases hkm:k=m
   ·subst hkm
    have hk0:(0:Int)≤(k:Int):=by omega
    by_cases hle:sn≤q
    ·go_wp2_with fail
     go_quiet (fail)
     go_wp2_with fail
     go_ret
     exact ⟨by rw[HH.out,decide_eq_true (by omega)];first|rfl|(simp;omega),Uc HV.out.2 _⟩
    ·go_wp2_with fail
     go_quiet (fail)
     go_wp2_with fail
     go_ret
     exact ⟨by rw[HH.out,decide_eq_false (by omega)];first|rfl|(simp;omega),Uc HV.out.2 _⟩
   ·have hne:¬ (k:Int)=(m:Int):=by omega
    go_wp2_with fail
    go_roundg (8 - (k+1))
    case measure=>rw[HG.out];omega
    case rel=>exact ⟨k+1,rfl,by simp,by omega,rfl⟩
 ·have hhas:WZ [d0,d1,d2,d3,d4,d5,d6,d7] ⟨sn,sr⟩=false:=by
   unfold WZ
   rw[decide_eq_false hin]
   rfl
  have HH:=Lib.hid hhas
  clear hhas
  go_enter Tryz.func173,Tryz.ntmps173
  go_wp2_with fail
  go_loopg [5] 8 (fun g kv wx=>∃ k:Nat,g=8 - k∧kv=.int .i64 k∧k≤8∧wx=W1)
  case atStart=>exact ⟨0,rfl,rfl,by omega,rfl⟩
  case round =>
   obtain ⟨k,hg,rfl,hk,rfl⟩:=hrel
   have HG:=Lib.hid hg
   clear hg
   by_cases hk8:k<8
   ·have hk1:(k:Int)<8:=by omega
    have hne:¬ (k:Int)=sr:=by omega
    go_wp2_with fail
    go_roundg (8 - (k+1))
    case measure=>rw[HG.out];omega
    case rel=>exact ⟨k+1,rfl,by simp,by omega,rfl⟩
   ·have hk1:¬ (k:Int)<8:=by omega
    go_wp2_with fail
    go_ret
    exact ⟨by rw[HH.out];rfl,HV.out.2⟩
theorem Ww (o:OpD) (s:St) (nb:Bool) (w:World):Calls Tryz.prog 134 #[o.val,.agg #[.int .i64 s.n,.int .i64 s.r],.bool nb] w fun e w'=>e=.returned (.bool (nb && decide (s=⟨0,0⟩) || o.may s))∧Below w.heap.size w w':=by
 unfold OpD.val
 obtain ⟨W1,hW1⟩:=Je ((w.alloc (.cells o.cells.toArray 68)).alloc (.cells #[.int .i64 s.n,.int .i64 s.r] 62))
 have hb1:Below w.heap.size w W1:=by rw[←hW1];exact ((Below.refl _ _).alloc (Nat.le_refl _) _).alloc (by simp) _
 have ho:OB w.heap.size o W1:=by rw[←hW1];exact (OB.new w o).alloc _
 have hs:W1.heap[w.heap.size+1]?=some (.cells #[.int .i64 s.n,.int .i64 s.r] 62 (0,0)):=by
  rw[←hW1]
  have:=ZB (w.alloc (.cells o.cells.toArray 68)) (.cells #[.int .i64 s.n,.int .i64 s.r] 62)
  rwa [World.size_alloc] at this
 have c0:W1.cell? ⟨w.heap.size+1,0,none⟩=some (.int .i64 s.n):=by simp[World.cell?,hs]
 have c1:W1.cell? ⟨w.heap.size+1,1,none⟩=some (.int .i64 s.r):=by simp[World.cell?,hs]
 have HV:=Jh (And.intro ho (And.intro hs hb1))
 clear ho hs hb1
 cases nb
 case false =>
  go_enter Tryz.func134,Tryz.ntmps134
  go_wp2_with fail
  refine (Sq s.n s.r _).mono ?_
  rintro e w2 ⟨rfl,b2⟩
  clear c0 c1
  simp only[show (⟨s.n,s.r⟩:St)=s from rfl]
  have HV2:Hid (OB w.heap.size o w2∧w2.heap[w.heap.size+1]?=some (.cells #[.int .i64 s.n,.int .i64 s.r] 62 (0,0))∧Below w.heap.size w w2):=Lib.hid ⟨HV.out.1.below b2 HV.out.1.lt,(b2.block _ (Array.getElem?_eq_some_iff.1 HV.out.2.1).1).trans HV.out.2.1,HV.out.2.2.trans (b2.mono HV.out.2.2.size)⟩
  clear b2
  cases hr:ZP s with
  | false =>
   have hm:o.may s=false:=by unfold OpD.may;rw[hr];rfl
   have HM:=Lib.hid hm
   clear hm hr
   go_wp2_with fail
   go_ret
   exact ⟨by rw[HM.out];simp,HV2.out.2.2⟩
  | true =>
   have hm:o.may s=WZ o.deps s:=by unfold OpD.may;rw[hr];rfl
   have HM:=Lib.hid hm
   clear hm hr
   have k0:w2.cell? ⟨w.heap.size+1,0,none⟩=some (.int .i64 s.n):=by simp[World.cell?,HV2.out.2.1]
   have k1:w2.cell? ⟨w.heap.size+1,1,none⟩=some (.int .i64 s.r):=by simp[World.cell?,HV2.out.2.1]
   have e0:w2.cell? ⟨w.heap.size,2,none⟩=some (.int .i64 o.d0):=HV2.out.1.cell rfl
   have e1:w2.cell? ⟨w.heap.size,3,none⟩=some (.int .i64 o.d1):=HV2.out.1.cell rfl
   have e2:w2.cell? ⟨w.heap.size,4,none⟩=some (.int .i64 o.d2):=HV2.out.1.cell rfl
   have e3:w2.cell? ⟨w.heap.size,5,none⟩=some (.int .i64 o.d3):=HV2.out.1.cell rfl
   have e4:w2.cell? ⟨w.heap.size,6,none⟩=some (.int .i64 o.d4):=HV2.out.1.cell rfl
   have e5:w2.cell? ⟨w.heap.size,7,none⟩=some (.int .i64 o.d5):=HV2.out.1.cell rfl
   have e6:w2.cell? ⟨w.heap.size,8,none⟩=some (.int .i64 o.d6):=HV2.out.1.cell rfl
   have e7:w2.cell? ⟨w.heap.size,9,none⟩=some (.int .i64 o.d7):=HV2.out.1.cell rfl
   go_wp2_with fail
   refine (Z2I o.d0 o.d1 o.d2 o.d3 o.d4 o.d5 o.d6 o.d7 s _).mono ?_
   rintro e w9 ⟨rfl,b9⟩
   have HZ:=Jh (HV2.out.2.2.trans (b9.mono HV2.out.2.2.size))
   clear b9 k0 k1 e0 e1 e2 e3 e4 e5 e6 e7
   have HMM:Hid (o.may s=WZ [o.d0,o.d1,o.d2,o.d3,o.d4,o.d5,o.d6,o.d7] s):=Lib.hid HM.out
   generalize WZ [o.d0,o.d1,o.d2,o.d3,o.d4,o.d5,o.d6,o.d7] s=hv at HMM ⊢
   go_wp2_with fail
   go_ret
   exact ⟨by rw[HMM.out];simp,HZ.out⟩
 case true =>
  go_enter Tryz.func134,Tryz.ntmps134
  go_wp2_with fail
  refine (Sq s.n s.r _).mono ?_
  rintro e w2 ⟨rfl,b2⟩
  clear c0 c1
  simp only[show (⟨s.n,s.r⟩:St)=s from rfl]
  have HV2:Hid (OB w.heap.size o w2∧w2.heap[w.heap.size+1]?=some (.cells #[.int .i64 s.n,.int .i64 s.r] 62 (0,0))∧Below w.heap.size w w2):=Lib.hid ⟨HV.out.1.below b2 HV.out.1.lt,(b2.block _ (Array.getElem?_eq_some_iff.1 HV.out.2.1).1).trans HV.out.2.1,HV.out.2.2.trans (b2.mono HV.out.2.2.size)⟩
  clear b2
  have k0:w2.cell? ⟨w.heap.size+1,0,none⟩=some (.int .i64 s.n):=by simp[World.cell?,HV2.out.2.1]
  have k1:w2.cell? ⟨w.heap.size+1,1,none⟩=some (.int .i64 s.r):=by simp[World.cell?,HV2.out.2.1]
  go_wp2_with fail
  refine (Z1l s _).mono ?_
  rintro e w3 ⟨rfl,b3⟩
  clear k0 k1
  have HV3:Hid (OB w.heap.size o w3∧w3.heap[w.heap.size+1]?=some (.cells #[.int .i64 s.n,.int .i64 s.r] 62 (0,0))∧Below w.heap.size w w3):=Lib.hid ⟨HV2.out.1.below b3 HV2.out.1.lt,(b3.block _ (Array.getElem?_eq_some_iff.1 HV2.out.2.1).1).trans HV2.out.2.1,HV2.out.2.2.trans (b3.mono HV2.out.2.2.size)⟩
  clear b3
  by_cases hz:s=⟨0,0⟩
  ·have HZ:=Lib.hid hz
   rw[decide_eq_true hz]
   clear hz
   go_wp2_with fail
   go_ret
   exact ⟨by rw[decide_eq_true HZ.out];first|rfl|simp,HV3.out.2.2⟩
  ·have HZ0:=Lib.hid hz
   rw[decide_eq_false hz]
   clear hz
   cases hr:ZP s with
   | false =>
    have hm:o.may s=false:=by unfold OpD.may;rw[hr];rfl
    have HM:=Lib.hid hm
    clear hm hr
    go_wp2_with fail
    go_ret
    exact ⟨by rw[HM.out];rw[decide_eq_false HZ0.out];simp,HV3.out.2.2⟩
   | true =>
    have hm:o.may s=WZ o.deps s:=by unfold OpD.may;rw[hr];rfl
    have HM:=Lib.hid hm
    clear hm hr
    have k0:w3.cell? ⟨w.heap.size+1,0,none⟩=some (.int .i64 s.n):=by simp[World.cell?,HV3.out.2.1]
    have k1:w3.cell? ⟨w.heap.size+1,1,none⟩=some (.int .i64 s.r):=by simp[World.cell?,HV3.out.2.1]
    have e0:w3.cell? ⟨w.heap.size,2,none⟩=some (.int .i64 o.d0):=HV3.out.1.cell rfl
    have e1:w3.cell? ⟨w.heap.size,3,none⟩=some (.int .i64 o.d1):=HV3.out.1.cell rfl
    have e2:w3.cell? ⟨w.heap.size,4,none⟩=some (.int .i64 o.d2):=HV3.out.1.cell rfl
    have e3:w3.cell? ⟨w.heap.size,5,none⟩=some (.int .i64 o.d3):=HV3.out.1.cell rfl
    have e4:w3.cell? ⟨w.heap.size,6,none⟩=some (.int .i64 o.d4):=HV3.out.1.cell rfl
    have e5:w3.cell? ⟨w.heap.size,7,none⟩=some (.int .i64 o.d5):=HV3.out.1.cell rfl
    have e6:w3.cell? ⟨w.heap.size,8,none⟩=some (.int .i64 o.d6):=HV3.out.1.cell rfl
    have e7:w3.cell? ⟨w.heap.size,9,none⟩=some (.int .i64 o.d7):=HV3.out.1.cell rfl
    go_wp2_with fail
    refine (Z2I o.d0 o.d1 o.d2 o.d3 o.d4 o.d5 o.d6 o.d7 s _).mono ?_
    rintro e w9 ⟨rfl,b9⟩
    have HZ:=Jh (HV3.out.2.2.trans (b9.mono HV3.out.2.2.size))
    clear b9 k0 k1 e0 e1 e2 e3 e4 e5 e6 e7
    have HMM:Hid (o.may s=WZ [o.d0,o.d1,o.d2,o.d3,o.d4,o.d5,o.d6,o.d7] s):=Lib.hid HM.out
    generalize WZ [o.d0,o.d1,o.d2,o.d3,o.d4,o.d5,o.d6,o.d7] s=hv at HMM ⊢
    go_wp2_with fail
    go_ret
    exact ⟨by rw[HMM.out];rw[decide_eq_false HZ0.out];simp,HZ.out⟩
end Go.Proofs.YtgmdimbiipemhaaGreatDoor
