/- stemmaref08.put: a contract. -/
import Derived.Test.YtgmdimbiipemhaaGreatDoorFldR08
import Derived.Test.YtgmdimbiipemhaaGreatDoorCols08
import Derived.Test.YtgmdimbiipemhaaGreatDoorTT08
namespace Go.Proofs.YtgmdimbiipemhaaGreatDoor
open Go.RowKit Go.Deep
set_option linter.unusedSimpArgs false
set_option linter.unusedVariables false

/-- One number of an operation. -/
def OpD.putF (o : OpD) (c : Nat) (v : Int) : OpD := o.withF fun j => if j = c then v else fld o j
theorem put_ops (o o' : OpD) (w : World) {T : TypeId} (hT : ∀ w, (sizeOf T).run Tryz.prog w = .ok 1 w) (off : Nat) (v : Int) (hoff : off < 26) (ho : o'.cells = o.cells.take off ++ [.int .i64 v] ++ o.cells.drop (off + 1)) :
    ∃ W3 W4, (Instr.storeAt T (.pointer (some ⟨w.heap.size, off, none⟩)) (.int .i64 v)).run Tryz.prog ((w.alloc (.cells o.cells.toArray 68)).alloc (.cells zeroOp.cells.toArray 68)) = .ok () W3 ∧ OB w.heap.size o' W3 ∧
      (Instr.storeAt 68 (.pointer (some ⟨w.heap.size + 1, 0, none⟩)) (.agg o'.cells.toArray)).run Tryz.prog W3 = .ok () W4 ∧ OB (w.heap.size + 1) o' W4 ∧ Below w.heap.size w W4 := by
  have hb : OB w.heap.size o (w.alloc (.cells o.cells.toArray 68)) := OB.new w o
  have hb1 : OB w.heap.size o ((w.alloc (.cells o.cells.toArray 68)).alloc (.cells zeroOp.cells.toArray 68)) := hb.alloc _
  have hb2 : OB (w.heap.size + 1) zeroOp ((w.alloc (.cells o.cells.toArray 68)).alloc (.cells zeroOp.cells.toArray 68)) := by
    have := OB.new (w.alloc (.cells o.cells.toArray 68)) zeroOp
    rwa [show (w.alloc (.cells o.cells.toArray 68)).heap.size = w.heap.size + 1 by simp] at this
  have hw : Below w.heap.size w ((w.alloc (.cells o.cells.toArray 68)).alloc (.cells zeroOp.cells.toArray 68)) := ((Below.refl _ _).alloc (Nat.le_refl _) _).alloc (by simp) _
  generalize (w.alloc (.cells o.cells.toArray 68)).alloc (.cells zeroOp.cells.toArray 68) = W2 at hb1 hb2 hw ⊢
  obtain ⟨W3, h1, h2, h3⟩ := OB.store hb1 (T := T) (k := 1) hT (off := off) (v := .int .i64 v) (vs := [.int .i64 v]) rfl rfl (by intro u hu; simp only [List.mem_cons, List.not_mem_nil, or_false] at hu; rcases hu with rfl; rfl) (by omega) o' ho
  have hb3 : OB (w.heap.size + 1) zeroOp W3 := hb2.ext h3 (by omega)
  obtain ⟨W4, k1, k2, k3⟩ := OB.store hb3 (T := 68) op_ty.size (off := 0) (v := .agg o'.cells.toArray) (vs := o'.cells) rfl rfl (OpD.one _) (by omega) o' (by
    rw [List.take_zero, List.nil_append, Nat.zero_add, List.drop_eq_nil_of_le (by rw [OpD.len]; omega), List.append_nil])
  refine ⟨W3, W4, h1, h2, k1, k2, ?_⟩
  have e3 := Ext.new hw h3 (fun i hi _ e => by omega) hw.size
  exact Ext.new e3 k3 (fun i hi _ e => by omega) e3.size

set_option maxRecDepth 20000 in
theorem rput8_0 (o : OpD) (v : Int) (w : World) : Calls Tryz.prog 58 #[o.val, .int .i64 0, .int .i64 v] w fun e w' => e = .returned (o.putF 0 v).val ∧ Below w.heap.size w w' := by
  obtain ⟨W3, W4, h1, h2, h3, h4, h5⟩ := put_ops o (o.putF 0 v) w (T := 3) size_t3 0 v (by omega) rfl
  unfold OpD.val
  generalize o.putF 0 v = x at h2 h3 h4 ⊢
  have hl := h2.whole
  have hr := h4.whole
  have HB := Lib.hid h5
  have HL := Lib.hid hl
  have H3 := Lib.hid h3
  have H1 := Lib.hid h1
  have HR := Lib.hid hr
  clear hl h3 h2 h4 h1 hr h5
  go_enter Tryz.func58, Tryz.ntmps58
  go_wp2_with (first | (refine wpList_store_run (T := 3) (v := .int .i64 v) rfl rfl rfl rfl H1.out ?_) | (refine wpList_load_run (T := 68) (v := .agg x.cells.toArray) rfl rfl rfl HL.out ?_) | (refine wpList_store_run (T := 68) (v := .agg x.cells.toArray) rfl rfl rfl rfl H3.out ?_))
  refine bodyPost_ret (v := .agg x.cells.toArray) (by rw [results_cell8 rfl]; first | exact HR.out | (have hr := HR.out; go_simp; exact hr)) rfl ?_
  exact ⟨rfl, HB.out⟩

set_option maxRecDepth 20000 in
theorem rput8_1 (o : OpD) (v : Int) (w : World) : Calls Tryz.prog 58 #[o.val, .int .i64 1, .int .i64 v] w fun e w' => e = .returned (o.putF 1 v).val ∧ Below w.heap.size w w' := by
  obtain ⟨W3, W4, h1, h2, h3, h4, h5⟩ := put_ops o (o.putF 1 v) w (T := 3) size_t3 1 v (by omega) rfl
  unfold OpD.val
  generalize o.putF 1 v = x at h2 h3 h4 ⊢
  have hl := h2.whole
  have hr := h4.whole
  have HB := Lib.hid h5
  have HL := Lib.hid hl
  have H3 := Lib.hid h3
  have H1 := Lib.hid h1
  have HR := Lib.hid hr
  clear hl h3 h2 h4 h1 hr h5
  go_enter Tryz.func58, Tryz.ntmps58
  go_wp2_with (first | (refine wpList_store_run (T := 3) (v := .int .i64 v) rfl rfl rfl rfl H1.out ?_) | (refine wpList_load_run (T := 68) (v := .agg x.cells.toArray) rfl rfl rfl HL.out ?_) | (refine wpList_store_run (T := 68) (v := .agg x.cells.toArray) rfl rfl rfl rfl H3.out ?_))
  refine bodyPost_ret (v := .agg x.cells.toArray) (by rw [results_cell8 rfl]; first | exact HR.out | (have hr := HR.out; go_simp; exact hr)) rfl ?_
  exact ⟨rfl, HB.out⟩

set_option maxRecDepth 20000 in
theorem rput8_2 (o : OpD) (v : Int) (w : World) : Calls Tryz.prog 58 #[o.val, .int .i64 2, .int .i64 v] w fun e w' => e = .returned (o.putF 2 v).val ∧ Below w.heap.size w w' := by
  obtain ⟨W3, W4, h1, h2, h3, h4, h5⟩ := put_ops o (o.putF 2 v) w (T := 3) size_t3 2 v (by omega) rfl
  unfold OpD.val
  generalize o.putF 2 v = x at h2 h3 h4 ⊢
  have hl := h2.whole
  have hr := h4.whole
  have HB := Lib.hid h5
  have HL := Lib.hid hl
  have H3 := Lib.hid h3
  have H1 := Lib.hid h1
  have HR := Lib.hid hr
  clear hl h3 h2 h4 h1 hr h5
  go_enter Tryz.func58, Tryz.ntmps58
  go_wp2_with (first | (refine wpList_store_run (T := 3) (v := .int .i64 v) rfl rfl rfl rfl H1.out ?_) | (refine wpList_load_run (T := 68) (v := .agg x.cells.toArray) rfl rfl rfl HL.out ?_) | (refine wpList_store_run (T := 68) (v := .agg x.cells.toArray) rfl rfl rfl rfl H3.out ?_))
  refine bodyPost_ret (v := .agg x.cells.toArray) (by rw [results_cell8 rfl]; first | exact HR.out | (have hr := HR.out; go_simp; exact hr)) rfl ?_
  exact ⟨rfl, HB.out⟩

set_option maxRecDepth 20000 in
theorem rput8_3 (o : OpD) (v : Int) (w : World) : Calls Tryz.prog 58 #[o.val, .int .i64 3, .int .i64 v] w fun e w' => e = .returned (o.putF 3 v).val ∧ Below w.heap.size w w' := by
  obtain ⟨W3, W4, h1, h2, h3, h4, h5⟩ := put_ops o (o.putF 3 v) w (T := 3) size_t3 3 v (by omega) rfl
  unfold OpD.val
  generalize o.putF 3 v = x at h2 h3 h4 ⊢
  have hl := h2.whole
  have hr := h4.whole
  have HB := Lib.hid h5
  have HL := Lib.hid hl
  have H3 := Lib.hid h3
  have H1 := Lib.hid h1
  have HR := Lib.hid hr
  clear hl h3 h2 h4 h1 hr h5
  go_enter Tryz.func58, Tryz.ntmps58
  go_wp2_with (first | (refine wpList_store_run (T := 3) (v := .int .i64 v) rfl rfl rfl rfl H1.out ?_) | (refine wpList_load_run (T := 68) (v := .agg x.cells.toArray) rfl rfl rfl HL.out ?_) | (refine wpList_store_run (T := 68) (v := .agg x.cells.toArray) rfl rfl rfl rfl H3.out ?_))
  refine bodyPost_ret (v := .agg x.cells.toArray) (by rw [results_cell8 rfl]; first | exact HR.out | (have hr := HR.out; go_simp; exact hr)) rfl ?_
  exact ⟨rfl, HB.out⟩

set_option maxRecDepth 20000 in
theorem rput8_4 (o : OpD) (v : Int) (w : World) : Calls Tryz.prog 58 #[o.val, .int .i64 4, .int .i64 v] w fun e w' => e = .returned (o.putF 4 v).val ∧ Below w.heap.size w w' := by
  obtain ⟨W3, W4, h1, h2, h3, h4, h5⟩ := put_ops o (o.putF 4 v) w (T := 3) size_t3 4 v (by omega) rfl
  unfold OpD.val
  generalize o.putF 4 v = x at h2 h3 h4 ⊢
  have hl := h2.whole
  have hr := h4.whole
  have HB := Lib.hid h5
  have HL := Lib.hid hl
  have H3 := Lib.hid h3
  have H1 := Lib.hid h1
  have HR := Lib.hid hr
  clear hl h3 h2 h4 h1 hr h5
  go_enter Tryz.func58, Tryz.ntmps58
  go_wp2_with (first | (refine wpList_store_run (T := 3) (v := .int .i64 v) rfl rfl rfl rfl H1.out ?_) | (refine wpList_load_run (T := 68) (v := .agg x.cells.toArray) rfl rfl rfl HL.out ?_) | (refine wpList_store_run (T := 68) (v := .agg x.cells.toArray) rfl rfl rfl rfl H3.out ?_))
  refine bodyPost_ret (v := .agg x.cells.toArray) (by rw [results_cell8 rfl]; first | exact HR.out | (have hr := HR.out; go_simp; exact hr)) rfl ?_
  exact ⟨rfl, HB.out⟩

set_option maxRecDepth 20000 in
theorem rput8_5 (o : OpD) (v : Int) (w : World) : Calls Tryz.prog 58 #[o.val, .int .i64 5, .int .i64 v] w fun e w' => e = .returned (o.putF 5 v).val ∧ Below w.heap.size w w' := by
  obtain ⟨W3, W4, h1, h2, h3, h4, h5⟩ := put_ops o (o.putF 5 v) w (T := 3) size_t3 5 v (by omega) rfl
  unfold OpD.val
  generalize o.putF 5 v = x at h2 h3 h4 ⊢
  have hl := h2.whole
  have hr := h4.whole
  have HB := Lib.hid h5
  have HL := Lib.hid hl
  have H3 := Lib.hid h3
  have H1 := Lib.hid h1
  have HR := Lib.hid hr
  clear hl h3 h2 h4 h1 hr h5
  go_enter Tryz.func58, Tryz.ntmps58
  go_wp2_with (first | (refine wpList_store_run (T := 3) (v := .int .i64 v) rfl rfl rfl rfl H1.out ?_) | (refine wpList_load_run (T := 68) (v := .agg x.cells.toArray) rfl rfl rfl HL.out ?_) | (refine wpList_store_run (T := 68) (v := .agg x.cells.toArray) rfl rfl rfl rfl H3.out ?_))
  refine bodyPost_ret (v := .agg x.cells.toArray) (by rw [results_cell8 rfl]; first | exact HR.out | (have hr := HR.out; go_simp; exact hr)) rfl ?_
  exact ⟨rfl, HB.out⟩

set_option maxRecDepth 20000 in
theorem rput8_6 (o : OpD) (v : Int) (w : World) : Calls Tryz.prog 58 #[o.val, .int .i64 6, .int .i64 v] w fun e w' => e = .returned (o.putF 6 v).val ∧ Below w.heap.size w w' := by
  obtain ⟨W3, W4, h1, h2, h3, h4, h5⟩ := put_ops o (o.putF 6 v) w (T := 3) size_t3 6 v (by omega) rfl
  unfold OpD.val
  generalize o.putF 6 v = x at h2 h3 h4 ⊢
  have hl := h2.whole
  have hr := h4.whole
  have HB := Lib.hid h5
  have HL := Lib.hid hl
  have H3 := Lib.hid h3
  have H1 := Lib.hid h1
  have HR := Lib.hid hr
  clear hl h3 h2 h4 h1 hr h5
  go_enter Tryz.func58, Tryz.ntmps58
  go_wp2_with (first | (refine wpList_store_run (T := 3) (v := .int .i64 v) rfl rfl rfl rfl H1.out ?_) | (refine wpList_load_run (T := 68) (v := .agg x.cells.toArray) rfl rfl rfl HL.out ?_) | (refine wpList_store_run (T := 68) (v := .agg x.cells.toArray) rfl rfl rfl rfl H3.out ?_))
  refine bodyPost_ret (v := .agg x.cells.toArray) (by rw [results_cell8 rfl]; first | exact HR.out | (have hr := HR.out; go_simp; exact hr)) rfl ?_
  exact ⟨rfl, HB.out⟩

set_option maxRecDepth 20000 in
theorem rput8_7 (o : OpD) (v : Int) (w : World) : Calls Tryz.prog 58 #[o.val, .int .i64 7, .int .i64 v] w fun e w' => e = .returned (o.putF 7 v).val ∧ Below w.heap.size w w' := by
  obtain ⟨W3, W4, h1, h2, h3, h4, h5⟩ := put_ops o (o.putF 7 v) w (T := 3) size_t3 7 v (by omega) rfl
  unfold OpD.val
  generalize o.putF 7 v = x at h2 h3 h4 ⊢
  have hl := h2.whole
  have hr := h4.whole
  have HB := Lib.hid h5
  have HL := Lib.hid hl
  have H3 := Lib.hid h3
  have H1 := Lib.hid h1
  have HR := Lib.hid hr
  clear hl h3 h2 h4 h1 hr h5
  go_enter Tryz.func58, Tryz.ntmps58
  go_wp2_with (first | (refine wpList_store_run (T := 3) (v := .int .i64 v) rfl rfl rfl rfl H1.out ?_) | (refine wpList_load_run (T := 68) (v := .agg x.cells.toArray) rfl rfl rfl HL.out ?_) | (refine wpList_store_run (T := 68) (v := .agg x.cells.toArray) rfl rfl rfl rfl H3.out ?_))
  refine bodyPost_ret (v := .agg x.cells.toArray) (by rw [results_cell8 rfl]; first | exact HR.out | (have hr := HR.out; go_simp; exact hr)) rfl ?_
  exact ⟨rfl, HB.out⟩

set_option maxRecDepth 20000 in
theorem rput8_8 (o : OpD) (v : Int) (w : World) : Calls Tryz.prog 58 #[o.val, .int .i64 8, .int .i64 v] w fun e w' => e = .returned (o.putF 8 v).val ∧ Below w.heap.size w w' := by
  obtain ⟨W3, W4, h1, h2, h3, h4, h5⟩ := put_ops o (o.putF 8 v) w (T := 3) size_t3 8 v (by omega) rfl
  unfold OpD.val
  generalize o.putF 8 v = x at h2 h3 h4 ⊢
  have hl := h2.whole
  have hr := h4.whole
  have HB := Lib.hid h5
  have HL := Lib.hid hl
  have H3 := Lib.hid h3
  have H1 := Lib.hid h1
  have HR := Lib.hid hr
  clear hl h3 h2 h4 h1 hr h5
  go_enter Tryz.func58, Tryz.ntmps58
  go_wp2_with (first | (refine wpList_store_run (T := 3) (v := .int .i64 v) rfl rfl rfl rfl H1.out ?_) | (refine wpList_load_run (T := 68) (v := .agg x.cells.toArray) rfl rfl rfl HL.out ?_) | (refine wpList_store_run (T := 68) (v := .agg x.cells.toArray) rfl rfl rfl rfl H3.out ?_))
  refine bodyPost_ret (v := .agg x.cells.toArray) (by rw [results_cell8 rfl]; first | exact HR.out | (have hr := HR.out; go_simp; exact hr)) rfl ?_
  exact ⟨rfl, HB.out⟩

set_option maxRecDepth 20000 in
theorem rput8_9 (o : OpD) (v : Int) (w : World) : Calls Tryz.prog 58 #[o.val, .int .i64 9, .int .i64 v] w fun e w' => e = .returned (o.putF 9 v).val ∧ Below w.heap.size w w' := by
  obtain ⟨W3, W4, h1, h2, h3, h4, h5⟩ := put_ops o (o.putF 9 v) w (T := 3) size_t3 9 v (by omega) rfl
  unfold OpD.val
  generalize o.putF 9 v = x at h2 h3 h4 ⊢
  have hl := h2.whole
  have hr := h4.whole
  have HB := Lib.hid h5
  have HL := Lib.hid hl
  have H3 := Lib.hid h3
  have H1 := Lib.hid h1
  have HR := Lib.hid hr
  clear hl h3 h2 h4 h1 hr h5
  go_enter Tryz.func58, Tryz.ntmps58
  go_wp2_with (first | (refine wpList_store_run (T := 3) (v := .int .i64 v) rfl rfl rfl rfl H1.out ?_) | (refine wpList_load_run (T := 68) (v := .agg x.cells.toArray) rfl rfl rfl HL.out ?_) | (refine wpList_store_run (T := 68) (v := .agg x.cells.toArray) rfl rfl rfl rfl H3.out ?_))
  refine bodyPost_ret (v := .agg x.cells.toArray) (by rw [results_cell8 rfl]; first | exact HR.out | (have hr := HR.out; go_simp; exact hr)) rfl ?_
  exact ⟨rfl, HB.out⟩

set_option maxRecDepth 20000 in
theorem rput8_10 (o : OpD) (v : Int) (w : World) : Calls Tryz.prog 58 #[o.val, .int .i64 10, .int .i64 v] w fun e w' => e = .returned (o.putF 10 v).val ∧ Below w.heap.size w w' := by
  obtain ⟨W3, W4, h1, h2, h3, h4, h5⟩ := put_ops o (o.putF 10 v) w (T := 63) size_t28 10 v (by omega) rfl
  unfold OpD.val
  generalize o.putF 10 v = x at h2 h3 h4 ⊢
  have hl := h2.whole
  have hr := h4.whole
  have HB := Lib.hid h5
  have HL := Lib.hid hl
  have H3 := Lib.hid h3
  have H1 := Lib.hid h1
  have HR := Lib.hid hr
  clear hl h3 h2 h4 h1 hr h5
  go_enter Tryz.func58, Tryz.ntmps58
  go_wp2_with (first | (refine wpList_store_run (T := 63) (v := .int .i64 v) rfl rfl rfl rfl H1.out ?_) | (refine wpList_load_run (T := 68) (v := .agg x.cells.toArray) rfl rfl rfl HL.out ?_) | (refine wpList_store_run (T := 68) (v := .agg x.cells.toArray) rfl rfl rfl rfl H3.out ?_))
  refine bodyPost_ret (v := .agg x.cells.toArray) (by rw [results_cell8 rfl]; first | exact HR.out | (have hr := HR.out; go_simp; exact hr)) rfl ?_
  exact ⟨rfl, HB.out⟩

set_option maxRecDepth 20000 in
theorem rput8_11 (o : OpD) (v : Int) (w : World) : Calls Tryz.prog 58 #[o.val, .int .i64 11, .int .i64 v] w fun e w' => e = .returned (o.putF 11 v).val ∧ Below w.heap.size w w' := by
  obtain ⟨W3, W4, h1, h2, h3, h4, h5⟩ := put_ops o (o.putF 11 v) w (T := 3) size_t3 11 v (by omega) rfl
  unfold OpD.val
  generalize o.putF 11 v = x at h2 h3 h4 ⊢
  have hl := h2.whole
  have hr := h4.whole
  have HB := Lib.hid h5
  have HL := Lib.hid hl
  have H3 := Lib.hid h3
  have H1 := Lib.hid h1
  have HR := Lib.hid hr
  clear hl h3 h2 h4 h1 hr h5
  go_enter Tryz.func58, Tryz.ntmps58
  go_wp2_with (first | (refine wpList_store_run (T := 3) (v := .int .i64 v) rfl rfl rfl rfl H1.out ?_) | (refine wpList_load_run (T := 68) (v := .agg x.cells.toArray) rfl rfl rfl HL.out ?_) | (refine wpList_store_run (T := 68) (v := .agg x.cells.toArray) rfl rfl rfl rfl H3.out ?_))
  refine bodyPost_ret (v := .agg x.cells.toArray) (by rw [results_cell8 rfl]; first | exact HR.out | (have hr := HR.out; go_simp; exact hr)) rfl ?_
  exact ⟨rfl, HB.out⟩

set_option maxRecDepth 20000 in
theorem rput8_12 (o : OpD) (v : Int) (w : World) : Calls Tryz.prog 58 #[o.val, .int .i64 12, .int .i64 v] w fun e w' => e = .returned (o.putF 12 v).val ∧ Below w.heap.size w w' := by
  obtain ⟨W3, W4, h1, h2, h3, h4, h5⟩ := put_ops o (o.putF 12 v) w (T := 3) size_t3 12 v (by omega) rfl
  unfold OpD.val
  generalize o.putF 12 v = x at h2 h3 h4 ⊢
  have hl := h2.whole
  have hr := h4.whole
  have HB := Lib.hid h5
  have HL := Lib.hid hl
  have H3 := Lib.hid h3
  have H1 := Lib.hid h1
  have HR := Lib.hid hr
  clear hl h3 h2 h4 h1 hr h5
  go_enter Tryz.func58, Tryz.ntmps58
  go_wp2_with (first | (refine wpList_store_run (T := 3) (v := .int .i64 v) rfl rfl rfl rfl H1.out ?_) | (refine wpList_load_run (T := 68) (v := .agg x.cells.toArray) rfl rfl rfl HL.out ?_) | (refine wpList_store_run (T := 68) (v := .agg x.cells.toArray) rfl rfl rfl rfl H3.out ?_))
  refine bodyPost_ret (v := .agg x.cells.toArray) (by rw [results_cell8 rfl]; first | exact HR.out | (have hr := HR.out; go_simp; exact hr)) rfl ?_
  exact ⟨rfl, HB.out⟩

set_option maxRecDepth 20000 in
theorem rput8_13 (o : OpD) (v : Int) (w : World) : Calls Tryz.prog 58 #[o.val, .int .i64 13, .int .i64 v] w fun e w' => e = .returned (o.putF 13 v).val ∧ Below w.heap.size w w' := by
  obtain ⟨W3, W4, h1, h2, h3, h4, h5⟩ := put_ops o (o.putF 13 v) w (T := 64) size_t29 13 v (by omega) rfl
  unfold OpD.val
  generalize o.putF 13 v = x at h2 h3 h4 ⊢
  have hl := h2.whole
  have hr := h4.whole
  have HB := Lib.hid h5
  have HL := Lib.hid hl
  have H3 := Lib.hid h3
  have H1 := Lib.hid h1
  have HR := Lib.hid hr
  clear hl h3 h2 h4 h1 hr h5
  go_enter Tryz.func58, Tryz.ntmps58
  go_wp2_with (first | (refine wpList_store_run (T := 64) (v := .int .i64 v) rfl rfl rfl rfl H1.out ?_) | (refine wpList_load_run (T := 68) (v := .agg x.cells.toArray) rfl rfl rfl HL.out ?_) | (refine wpList_store_run (T := 68) (v := .agg x.cells.toArray) rfl rfl rfl rfl H3.out ?_))
  refine bodyPost_ret (v := .agg x.cells.toArray) (by rw [results_cell8 rfl]; first | exact HR.out | (have hr := HR.out; go_simp; exact hr)) rfl ?_
  exact ⟨rfl, HB.out⟩

set_option maxRecDepth 20000 in
theorem rput8_14 (o : OpD) (v : Int) (w : World) : Calls Tryz.prog 58 #[o.val, .int .i64 14, .int .i64 v] w fun e w' => e = .returned (o.putF 14 v).val ∧ Below w.heap.size w w' := by
  obtain ⟨W3, W4, h1, h2, h3, h4, h5⟩ := put_ops o (o.putF 14 v) w (T := 3) size_t3 14 v (by omega) rfl
  unfold OpD.val
  generalize o.putF 14 v = x at h2 h3 h4 ⊢
  have hl := h2.whole
  have hr := h4.whole
  have HB := Lib.hid h5
  have HL := Lib.hid hl
  have H3 := Lib.hid h3
  have H1 := Lib.hid h1
  have HR := Lib.hid hr
  clear hl h3 h2 h4 h1 hr h5
  go_enter Tryz.func58, Tryz.ntmps58
  go_wp2_with (first | (refine wpList_store_run (T := 3) (v := .int .i64 v) rfl rfl rfl rfl H1.out ?_) | (refine wpList_load_run (T := 68) (v := .agg x.cells.toArray) rfl rfl rfl HL.out ?_) | (refine wpList_store_run (T := 68) (v := .agg x.cells.toArray) rfl rfl rfl rfl H3.out ?_))
  refine bodyPost_ret (v := .agg x.cells.toArray) (by rw [results_cell8 rfl]; first | exact HR.out | (have hr := HR.out; go_simp; exact hr)) rfl ?_
  exact ⟨rfl, HB.out⟩

set_option maxRecDepth 20000 in
theorem rput8_15 (o : OpD) (v : Int) (w : World) : Calls Tryz.prog 58 #[o.val, .int .i64 15, .int .i64 v] w fun e w' => e = .returned (o.putF 15 v).val ∧ Below w.heap.size w w' := by
  obtain ⟨W3, W4, h1, h2, h3, h4, h5⟩ := put_ops o (o.putF 15 v) w (T := 3) size_t3 15 v (by omega) rfl
  unfold OpD.val
  generalize o.putF 15 v = x at h2 h3 h4 ⊢
  have hl := h2.whole
  have hr := h4.whole
  have HB := Lib.hid h5
  have HL := Lib.hid hl
  have H3 := Lib.hid h3
  have H1 := Lib.hid h1
  have HR := Lib.hid hr
  clear hl h3 h2 h4 h1 hr h5
  go_enter Tryz.func58, Tryz.ntmps58
  go_wp2_with (first | (refine wpList_store_run (T := 3) (v := .int .i64 v) rfl rfl rfl rfl H1.out ?_) | (refine wpList_load_run (T := 68) (v := .agg x.cells.toArray) rfl rfl rfl HL.out ?_) | (refine wpList_store_run (T := 68) (v := .agg x.cells.toArray) rfl rfl rfl rfl H3.out ?_))
  refine bodyPost_ret (v := .agg x.cells.toArray) (by rw [results_cell8 rfl]; first | exact HR.out | (have hr := HR.out; go_simp; exact hr)) rfl ?_
  exact ⟨rfl, HB.out⟩

set_option maxRecDepth 20000 in
theorem rput8_16 (o : OpD) (v : Int) (w : World) : Calls Tryz.prog 58 #[o.val, .int .i64 16, .int .i64 v] w fun e w' => e = .returned (o.putF 16 v).val ∧ Below w.heap.size w w' := by
  obtain ⟨W3, W4, h1, h2, h3, h4, h5⟩ := put_ops o (o.putF 16 v) w (T := 3) size_t3 16 v (by omega) rfl
  unfold OpD.val
  generalize o.putF 16 v = x at h2 h3 h4 ⊢
  have hl := h2.whole
  have hr := h4.whole
  have HB := Lib.hid h5
  have HL := Lib.hid hl
  have H3 := Lib.hid h3
  have H1 := Lib.hid h1
  have HR := Lib.hid hr
  clear hl h3 h2 h4 h1 hr h5
  go_enter Tryz.func58, Tryz.ntmps58
  go_wp2_with (first | (refine wpList_store_run (T := 3) (v := .int .i64 v) rfl rfl rfl rfl H1.out ?_) | (refine wpList_load_run (T := 68) (v := .agg x.cells.toArray) rfl rfl rfl HL.out ?_) | (refine wpList_store_run (T := 68) (v := .agg x.cells.toArray) rfl rfl rfl rfl H3.out ?_))
  refine bodyPost_ret (v := .agg x.cells.toArray) (by rw [results_cell8 rfl]; first | exact HR.out | (have hr := HR.out; go_simp; exact hr)) rfl ?_
  exact ⟨rfl, HB.out⟩

set_option maxRecDepth 20000 in
theorem rput8_17 (o : OpD) (v : Int) (w : World) : Calls Tryz.prog 58 #[o.val, .int .i64 17, .int .i64 v] w fun e w' => e = .returned (o.putF 17 v).val ∧ Below w.heap.size w w' := by
  obtain ⟨W3, W4, h1, h2, h3, h4, h5⟩ := put_ops o (o.putF 17 v) w (T := 3) size_t3 20 v (by omega) rfl
  unfold OpD.val
  generalize o.putF 17 v = x at h2 h3 h4 ⊢
  have hl := h2.whole
  have hr := h4.whole
  have HB := Lib.hid h5
  have HL := Lib.hid hl
  have H3 := Lib.hid h3
  have H1 := Lib.hid h1
  have HR := Lib.hid hr
  clear hl h3 h2 h4 h1 hr h5
  go_enter Tryz.func58, Tryz.ntmps58
  go_wp2_with (first | (refine wpList_store_run (T := 3) (v := .int .i64 v) rfl rfl rfl rfl H1.out ?_) | (refine wpList_load_run (T := 68) (v := .agg x.cells.toArray) rfl rfl rfl HL.out ?_) | (refine wpList_store_run (T := 68) (v := .agg x.cells.toArray) rfl rfl rfl rfl H3.out ?_))
  refine bodyPost_ret (v := .agg x.cells.toArray) (by rw [results_cell8 rfl]; first | exact HR.out | (have hr := HR.out; go_simp; exact hr)) rfl ?_
  exact ⟨rfl, HB.out⟩

set_option maxRecDepth 20000 in
theorem rput8_18 (o : OpD) (v : Int) (w : World) : Calls Tryz.prog 58 #[o.val, .int .i64 18, .int .i64 v] w fun e w' => e = .returned (o.putF 18 v).val ∧ Below w.heap.size w w' := by
  obtain ⟨W3, W4, h1, h2, h3, h4, h5⟩ := put_ops o (o.putF 18 v) w (T := 3) size_t3 21 v (by omega) rfl
  unfold OpD.val
  generalize o.putF 18 v = x at h2 h3 h4 ⊢
  have hl := h2.whole
  have hr := h4.whole
  have HB := Lib.hid h5
  have HL := Lib.hid hl
  have H3 := Lib.hid h3
  have H1 := Lib.hid h1
  have HR := Lib.hid hr
  clear hl h3 h2 h4 h1 hr h5
  go_enter Tryz.func58, Tryz.ntmps58
  go_wp2_with (first | (refine wpList_store_run (T := 3) (v := .int .i64 v) rfl rfl rfl rfl H1.out ?_) | (refine wpList_load_run (T := 68) (v := .agg x.cells.toArray) rfl rfl rfl HL.out ?_) | (refine wpList_store_run (T := 68) (v := .agg x.cells.toArray) rfl rfl rfl rfl H3.out ?_))
  refine bodyPost_ret (v := .agg x.cells.toArray) (by rw [results_cell8 rfl]; first | exact HR.out | (have hr := HR.out; go_simp; exact hr)) rfl ?_
  exact ⟨rfl, HB.out⟩

set_option maxRecDepth 20000 in
theorem rput8_19 (o : OpD) (v : Int) (w : World) : Calls Tryz.prog 58 #[o.val, .int .i64 19, .int .i64 v] w fun e w' => e = .returned (o.putF 19 v).val ∧ Below w.heap.size w w' := by
  obtain ⟨W3, W4, h1, h2, h3, h4, h5⟩ := put_ops o (o.putF 19 v) w (T := 3) size_t3 23 v (by omega) rfl
  unfold OpD.val
  generalize o.putF 19 v = x at h2 h3 h4 ⊢
  have hl := h2.whole
  have hr := h4.whole
  have HB := Lib.hid h5
  have HL := Lib.hid hl
  have H3 := Lib.hid h3
  have H1 := Lib.hid h1
  have HR := Lib.hid hr
  clear hl h3 h2 h4 h1 hr h5
  go_enter Tryz.func58, Tryz.ntmps58
  go_wp2_with (first | (refine wpList_store_run (T := 3) (v := .int .i64 v) rfl rfl rfl rfl H1.out ?_) | (refine wpList_load_run (T := 68) (v := .agg x.cells.toArray) rfl rfl rfl HL.out ?_) | (refine wpList_store_run (T := 68) (v := .agg x.cells.toArray) rfl rfl rfl rfl H3.out ?_))
  refine bodyPost_ret (v := .agg x.cells.toArray) (by rw [results_cell8 rfl]; first | exact HR.out | (have hr := HR.out; go_simp; exact hr)) rfl ?_
  exact ⟨rfl, HB.out⟩

set_option maxRecDepth 20000 in
theorem rput8_20 (o : OpD) (v : Int) (w : World) : Calls Tryz.prog 58 #[o.val, .int .i64 20, .int .i64 v] w fun e w' => e = .returned (o.putF 20 v).val ∧ Below w.heap.size w w' := by
  obtain ⟨W3, W4, h1, h2, h3, h4, h5⟩ := put_ops o (o.putF 20 v) w (T := 3) size_t3 24 v (by omega) rfl
  unfold OpD.val
  generalize o.putF 20 v = x at h2 h3 h4 ⊢
  have hl := h2.whole
  have hr := h4.whole
  have HB := Lib.hid h5
  have HL := Lib.hid hl
  have H3 := Lib.hid h3
  have H1 := Lib.hid h1
  have HR := Lib.hid hr
  clear hl h3 h2 h4 h1 hr h5
  go_enter Tryz.func58, Tryz.ntmps58
  go_wp2_with (first | (refine wpList_store_run (T := 3) (v := .int .i64 v) rfl rfl rfl rfl H1.out ?_) | (refine wpList_load_run (T := 68) (v := .agg x.cells.toArray) rfl rfl rfl HL.out ?_) | (refine wpList_store_run (T := 68) (v := .agg x.cells.toArray) rfl rfl rfl rfl H3.out ?_))
  refine bodyPost_ret (v := .agg x.cells.toArray) (by rw [results_cell8 rfl]; first | exact HR.out | (have hr := HR.out; go_simp; exact hr)) rfl ?_
  exact ⟨rfl, HB.out⟩

theorem rput8_any (o : OpD) (c : Nat) (hc : c < 21) (v : Int) (w : World) : Calls Tryz.prog 58 #[o.val, .int .i64 c, .int .i64 v] w fun e w' => e = .returned (o.putF c v).val ∧ Below w.heap.size w w' := by
  rcases (by omega : c = 0 ∨ c = 1 ∨ c = 2 ∨ c = 3 ∨ c = 4 ∨ c = 5 ∨ c = 6 ∨ c = 7 ∨ c = 8 ∨ c = 9 ∨ c = 10 ∨ c = 11 ∨ c = 12 ∨ c = 13 ∨ c = 14 ∨ c = 15 ∨ c = 16 ∨ c = 17 ∨ c = 18 ∨ c = 19 ∨ c = 20) with rfl | rfl | rfl | rfl | rfl | rfl | rfl | rfl | rfl | rfl | rfl | rfl | rfl | rfl | rfl | rfl | rfl | rfl | rfl | rfl | rfl
  · exact rput8_0 o v w
  · exact rput8_1 o v w
  · exact rput8_2 o v w
  · exact rput8_3 o v w
  · exact rput8_4 o v w
  · exact rput8_5 o v w
  · exact rput8_6 o v w
  · exact rput8_7 o v w
  · exact rput8_8 o v w
  · exact rput8_9 o v w
  · exact rput8_10 o v w
  · exact rput8_11 o v w
  · exact rput8_12 o v w
  · exact rput8_13 o v w
  · exact rput8_14 o v w
  · exact rput8_15 o v w
  · exact rput8_16 o v w
  · exact rput8_17 o v w
  · exact rput8_18 o v w
  · exact rput8_19 o v w
  · exact rput8_20 o v w

end Go.Proofs.YtgmdimbiipemhaaGreatDoor
