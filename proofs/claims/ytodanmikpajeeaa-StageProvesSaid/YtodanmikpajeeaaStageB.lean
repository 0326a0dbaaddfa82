/- The law's own turning of a message of the document's into one of the program's; when two messages are the same. -/
import Derived.Test.YtodanmikpajeeaaStageA
import Derived.Test.YtodanmikpajeeaaDraw
namespace Go.Proofs.Ytodanmikpajeeaa
open Go Go.Proofs Go.RowKit

set_option maxRecDepth 100000 in
theorem sign_nil (sz tl lw lh ll : Int) (w : World) :
    Calls Try.prog 29 #[.agg #[.int .i64 sz, .slice none 0 0, .int .i64 tl, .int .u32 lw, .int .u64 lh, .int .u64 ll]] w (RetV w (.agg #[.int .i64 sz, .slice none 0 0, .int .i64 tl, .int .u32 lw, .int .u64 lh, .int .u64 ll])) := by
  go_enter Try.func29, Try.ntmps29
  go_wp2
  refine wp_loop_once ?_
  go_wp2
  refine bodyPost_ret (v := (.agg #[.int .i64 sz, .slice none 0 0, .int .i64 tl, .int .u32 lw, .int .u64 lh, .int .u64 ll])) (by simp [results, Try.results29, go_sem] <;> rfl) rfl ?_
  exact ⟨rfl, (((Ext.refl w).alloc _).alloc _).alloc _⟩

set_option maxHeartbeats 1000000 in
set_option maxRecDepth 100000 in
theorem to_nil (k n at_ tt : Int) (y : Bool) (c : Int) (s : ByteArray) (sz tl lw lh ll : Int) (w : World) :
    Calls Try.prog 12 #[.agg #[.int .i64 k, .int .i64 n, .int .i64 at_, .int .i64 tt, .bool y, .int .i64 c, .string s, .int .i64 sz, .slice none 0 0, .int .i64 tl, .int .u32 lw, .int .u64 lh, .int .u64 ll, .slice none 0 0]] w (RetV w (.agg #[.int .i64 k, .int .i64 n, .int .i64 at_, .int .i64 tt, .bool y, .int .i64 c, .string s, .int .i64 sz, .slice none 0 0, .int .i64 tl, .int .u32 lw, .int .u64 lh, .int .u64 ll, .slice none 0 0])) := by
  go_enter Try.func12, Try.ntmps12
  go_wp2
  refine wp_draw_stages 23 20 [false, false, false, false, false, false, false, false, false, false, false, false, false, false, false, false, false, false, false, true] [([true, true, true, true, true, true, true, true, true, true, true, true, true, true, true, true, false, true, true], 16)] Ext Ext.refl (fun _ _ _ => Ext.trans) (by kernel_rfl) (by kernel_rfl) ?_
  apply wpStages_cons (by simp)
  · intro w1 hw1
    simp only [sel_true, sel_false, sel_nil]
    have hc := fun o => hw1.cell (b := w.heap.size) (o := o) (by simp; omega)
    repeat still_step
    exact wpStill_nil rfl
  simp only [List.getD_cons_succ, List.getD_cons_zero]
  go_wp2_with (go_at_call 29; refine (sign_nil _ _ _ _ _ _).mono ?_; rintro e w' ⟨rfl, hb1⟩)
  have hE : Ext _ w' := hb1
  clear hb1
  refine ⟨hE, ?_⟩
  refine wpStages_nil ?_
  simp only [sel_true, sel_false, sel_nil]
  repeat still_step
  refine wpStill_nil ?_
  simp only [List.drop_succ_cons, List.drop_zero]
  refine wpList_store_blk rfl rfl rfl rfl (hE.block (heap_at _ _ (by simp))) rfl (by kernel_rfl) (by simp [Value.oneCell']) ?_
  go_wp2
  have hlt : w.heap.size + 1 < w'.heap.size := blk_lt (hE.block (heap_at _ _ (by simp)))
  refine bodyPost_ret (res_cell rfl rfl (putBlk_same _ hlt) (by kernel_rfl) (by kernel_rfl)) rfl ?_
  exact ⟨rfl, Ext.putNew ((((Ext.refl w).alloc _).alloc _).drew.trans hE) (by omega) _⟩

set_option maxRecDepth 100000 in
theorem eqE_nil (w : World) : Calls Try.prog 28 #[.slice none 0 0, .slice none 0 0] w (RetV w (.bool true)) := by
  go_enter Try.func28, Try.ntmps28
  go_wp2
  refine wp_loop_once ?_
  go_wp2
  go_ret
  exact ⟨rfl, Ext.refl w⟩
set_option maxRecDepth 100000 in
theorem eqS_nil (w : World) : Calls Try.prog 36 #[.slice none 0 0, .slice none 0 0] w (RetV w (.bool true)) := by
  go_enter Try.func36, Try.ntmps36
  go_wp2
  refine wp_loop_once ?_
  go_wp2
  go_ret
  exact ⟨rfl, Ext.refl w⟩
set_option maxHeartbeats 1000000 in
set_option maxRecDepth 100000 in
theorem bsame_nil (w : World) : Calls Try.prog 27 #[.agg #[.int .i64 0, .slice none 0 0, .int .i64 0, .int .u32 0, .int .u64 0, .int .u64 0], .agg #[.int .i64 0, .slice none 0 0, .int .i64 0, .int .u32 0, .int .u64 0, .int .u64 0]] w (RetV w (.bool true)) := by
  go_enter Try.func27, Try.ntmps27
  go_wp2_with (go_at_call 36; refine (eqS_nil _).mono ?_; rintro e w' ⟨rfl, hb1⟩)
  go_ret
  exact ⟨rfl, (((Ext.refl w).alloc _).alloc _).trans hb1⟩
set_option maxHeartbeats 1000000 in
set_option maxRecDepth 100000 in
theorem same_self (k n at_ : Int) (y : Bool) (s : ByteArray) (w : World) :
    Calls Try.prog 11 #[.agg #[.int .i64 k, .int .i64 n, .int .i64 at_, .int .i64 0, .bool y, .int .i64 0, .string s, .int .i64 0, .slice none 0 0, .int .i64 0, .int .u32 0, .int .u64 0, .int .u64 0, .slice none 0 0], .agg #[.int .i64 k, .int .i64 n, .int .i64 at_, .int .i64 0, .bool y, .int .i64 0, .string s, .int .i64 0, .slice none 0 0, .int .i64 0, .int .u32 0, .int .u64 0, .int .u64 0, .slice none 0 0]] w (RetV w (.bool true)) := by
  go_enter Try.func11, Try.ntmps11
  go_wp2_with (first | (go_at_call 27; refine (bsame_nil _).mono ?_; rintro e w' ⟨rfl, hb1⟩; have hE1 : Ext _ w' := hb1; have hc1 := fun o => hE1.cell (b := w.heap.size) (o := o) (by simp; omega); have hc2 := fun o => hE1.cell (b := w.heap.size + 1) (o := o) (by simp); clear hb1) | (go_at_call 28; refine (eqE_nil _).mono ?_; rintro e w' ⟨rfl, hb2⟩))
  go_ret
  exact ⟨rfl, ((((Ext.refl w).alloc _).alloc _).trans hE1).trans hb2⟩
end Go.Proofs.Ytodanmikpajeeaa
